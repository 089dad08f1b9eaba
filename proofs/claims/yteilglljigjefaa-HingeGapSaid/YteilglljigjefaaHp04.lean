/- Regions that draw their order, whose operations read, call, and write the call's own memory: as XCalm, with any kind of growth in the place of 'holds all that w holds'. No program in sight. -/
import Derived.RegionTactic
import Derived.BigRegion
import Derived.Deep.WholeRow
import Derived.Test.YteilglljigjefaaHp03
namespace Go.Proofs.Yteilglljigjefaa
open Go.RowKit
namespace Cw

/-- A kind of growth. -/
structure Pre where
  R : World → World → Prop
  refl : ∀ w, R w w
  trans : ∀ {a b c}, R a b → R b c → R a c
  drawn : ∀ {a w : World}, R a w → ∀ n, R a { w with drawn := n }

/-! ### The theory -/

def Sat (p : Pre) (w0 : World) (F : Fx) : Prop := ∃ w, p.R w0 w ∧ ∀ k, F k w

def calmUpon (p : Pre) (P : Program) (w : World) (Sj : Array Value → Value → World → Prop) : Result Next → Prop
  | .ok (.value _) w' => p.R w w'
  | .ok .skip w' => p.R w w'
  | .ok (.enter f args) w' => Calls P f args w' (fun e w'' => ∃ v, e = .returned v ∧ p.R w w'' ∧ Sj args v w'')
  | _ => False

def gives (p : Pre) (Sj : Array Value → Value → World → Prop) (v : Value) (w' : World) : Result Next → Prop
  | .ok (.value u) w2 => v = u ∧ p.R w2 w'
  | .ok .skip w2 => v = undef ∧ p.R w2 w'
  | .ok (.enter _ args) _ => Sj args v w'
  | _ => False

section
variable (p : Pre) (P : Program) (ops : Array Oper) (S : Spec) (w0 : World)

def Rel (x : Sem Next) (fj : World → Prop) (Sj : Array Value → Value → World → Prop) (v : Value) (w' : World) : Prop :=
  ∃ w1, p.R w0 w1 ∧ fj w1 ∧ gives p Sj v w' (x.run P w1)

def YC (j : Nat) (o : Oper) (a : Act) (F : Fx) : Prop :=
  Region.wanted o (yielded ops a.tmps) = true → ∀ w, p.R w0 w → facts ops F j w → calmUpon p P w (S j) ((execOp a.eval o).run P w)

def Cont (j : Nat) (o : Oper) (a : Act) (F : Fx) (K : Act → Fx → Prop) : Prop :=
  (Region.wanted o (yielded ops a.tmps) = true → ∀ v, Sat p w0 (F.put j (Rel p P w0 (execOp a.eval o) (facts ops F j) (S j) v)) →
    K (a.put o.dst v) (F.put j (Rel p P w0 (execOp a.eval o) (facts ops F j) (S j) v))) ∧
  (Region.wanted o (yielded ops a.tmps) = false → K (a.put o.dst undef) F)

def cOp (j : Nat) (K : Act → Fx → Prop) (a : Act) (F : Fx) : Prop :=
  ∃ o, ops[j]? = some o ∧ YC p P ops S w0 j o a F ∧ Cont p P ops S w0 j o a F K

def wpCalm (Q : Act → Fx → Prop) : List Oper → Nat → Act → Fx → Prop
  | [], _, a, F => Q a F
  | o :: rest, k, a, F => YC p P ops S w0 k o a F ∧ Cont p P ops S w0 k o a F (wpCalm Q rest (k + 1))

def wpAnyC (n : Nat) (L : Array Bool → Act → Fx → Prop) : Nat → Array Bool → Act → Fx → Prop
  | 0, listed, a, F => L listed a F
  | f + 1, listed, a, F =>
    Region.ready .any ops listed ≠ [] ∧ ∀ i ∈ Region.ready .any ops listed, i < n ∧ cOp p P ops S w0 i (wpAnyC n L f (listed.setIfInBounds i true)) a F
end

def StableF (p : Pre) (F : Fx) : Prop := ∀ k w w', p.R w w' → F k w → F k w'
def StableS (p : Pre) (S : Spec) : Prop := ∀ j args v w w', p.R w w' → S j args v w → S j args v w'

section
variable {p : Pre} {P : Program} {ops : Array Oper} {S : Spec} {w0 : World}

theorem gives_stable {Sj : Array Value → Value → World → Prop} (hS : ∀ args v w w', p.R w w' → Sj args v w → Sj args v w') {v : Value} {w w' : World} {r : Result Next} (he : p.R w w') (h : gives p Sj v w r) : gives p Sj v w' r := by
  unfold gives at *
  split at h
  · exact ⟨h.1, p.trans h.2 he⟩
  · exact ⟨h.1, p.trans h.2 he⟩
  · exact hS _ _ _ _ he h
  · exact h.elim

theorem StableF.put {F : Fx} (h : StableF p F) {i : Nat} {T : World → Prop} (hT : ∀ w w', p.R w w' → T w → T w') : StableF p (F.put i T) :=
  fun k w w' he hk => ⟨h k w w' he hk.1, fun e => hT _ _ he (hk.2 e)⟩

theorem rel_stable (hS : StableS p S) {x : Sem Next} {fj : World → Prop} {j : Nat} {v : Value} : ∀ w w', p.R w w' → Rel p P w0 x fj (S j) v w → Rel p P w0 x fj (S j) v w' :=
  fun _ _ he ⟨w1, h1, h2, h3⟩ => ⟨w1, h1, h2, gives_stable (hS j) he h3⟩

/-- From an actual world: the operation runs, and what comes out is related. -/
theorem wp_of_calm {o : Oper} {a : Act} {w : World} {j : Nat} {fj : World → Prop} {K' : Act → World → Prop} {Q' : Exit → Act → World → Prop}
    (he : p.R w0 w) (hf : fj w) (hu : calmUpon p P w (S j) ((execOp a.eval o).run P w))
    (h : ∀ v w', p.R w w' → Rel p P w0 (execOp a.eval o) fj (S j) v w' → K' (a.put o.dst v) w') : o.wp P a w K' Q' := by
  have h' : ∀ v w', p.R w w' → gives p (S j) v w' ((execOp a.eval o).run P w) → K' (a.put o.dst v) w' := fun v w' h1 h2 => h v w' h1 ⟨w, he, hf, h2⟩
  clear h
  unfold Oper.wp
  generalize (execOp a.eval o).run P w = r at *
  cases r with
  | ok n w' =>
    cases n <;> simp only [calmUpon] at hu <;> simp only [Oper.upon]
    case value u => exact h' _ _ hu ⟨rfl, p.refl _⟩
    case skip => exact h' _ _ hu ⟨rfl, p.refl _⟩
    case enter f args => exact hu.mono fun e w'' ⟨v, he', hx, hs⟩ => by subst he'; exact h' _ _ hx hs
  | halt x w' => simp only [calmUpon] at hu

/-- There is a value that comes out. -/
theorem exists_of_calm {x : Sem Next} {w : World} {j : Nat} {fj : World → Prop} (he : p.R w0 w) (hf : fj w) (hu : calmUpon p P w (S j) (x.run P w)) :
    ∃ v w', p.R w w' ∧ Rel p P w0 x fj (S j) v w' := by
  have key : ∃ v w', p.R w w' ∧ gives p (S j) v w' (x.run P w) := by
    generalize x.run P w = r at *
    cases r with
    | ok n w' =>
      cases n <;> simp only [calmUpon] at hu
      case value u => exact ⟨u, w', hu, rfl, p.refl _⟩
      case skip => exact ⟨undef, w', hu, rfl, p.refl _⟩
      case enter f args =>
        obtain ⟨e, w'', _, ⟨v, _, hx, hs⟩, _⟩ := hu []
        exact ⟨v, w'', hx, hs⟩
    | halt x w' => simp only [calmUpon] at hu
  obtain ⟨v, w', h1, h2⟩ := key
  exact ⟨v, w', h1, w, he, hf, h2⟩

theorem wpOp_of_cOp {j : Nat} {a : Act} {F : Fx} {w : World} {K : Act → Fx → Prop} {K' : Act → World → Prop} {Q' : Exit → Act → World → Prop} (hS : StableS p S)
    (he : p.R w0 w) (hF : ∀ k, F k w) (hst : StableF p F) (h : ∀ a F w', p.R w0 w' → (∀ k, F k w') → StableF p F → K a F → K' a w') (hc : cOp p P ops S w0 j K a F) : wpOp P ops Q' j K' a w := by
  obtain ⟨o, ho, hy, hn⟩ := hc
  unfold wpOp
  simp only [ho]
  cases hw : Region.wanted o (yielded ops a.tmps) with
  | true =>
    simp only [if_true]
    refine .inl (wp_of_calm (S := S) (j := j) (fj := facts ops F j) he (fun k _ => hF k) (hy hw w he (fun k _ => hF k)) fun v w' hx hr => ?_)
    have hx0 := p.trans he hx
    have hF' : ∀ k, (F.put j (Rel p P w0 (execOp a.eval o) (facts ops F j) (S j) v)) k w' := fun k => ⟨hst _ _ _ hx (hF k), fun _ => hr⟩
    exact h _ _ _ hx0 hF' (hst.put (rel_stable hS)) (hn.1 hw v ⟨w', hx0, hF'⟩)
  | false =>
    simp only [Bool.false_eq_true, if_false]
    exact h _ _ _ he hF hst (hn.2 hw)

theorem wpAny_of_headC {n g : Nat} {L : Array Bool → Act → Fx → Prop} {Q' : Exit → Act → World → Prop} (hS : StableS p S)
    (hL : ∀ listed a F w, p.R w0 w → (∀ k, F k w) → L listed a F → wpAny P .any ops Q' g listed a w) :
    ∀ (f : Nat) (listed : Array Bool) (a : Act) (F : Fx) (w : World), p.R w0 w → (∀ k, F k w) → StableF p F → wpAnyC p P ops S w0 n L f listed a F → wpAny P .any ops Q' (f + g) listed a w
  | 0, listed, a, F, w, he, hF, _, h => by rw [Nat.zero_add]; exact hL _ _ _ _ he hF h
  | f + 1, listed, a, F, w, he, hF, hst, h => by
    rw [show f + 1 + g = (f + g) + 1 by omega]
    exact ⟨fun h0 => absurd h0 h.1, fun i hi => wpOp_of_cOp hS he hF hst (fun a' F' w' he' hF' hst' h' => wpAny_of_headC hS hL f _ a' F' w' he' hF' hst' h') (h.2 i hi).2⟩

theorem wpAnyC_first {n i : Nat} {oi : Oper} {L : Array Bool → Act → Fx → Prop} (hS : StableS p S) (hi : ops[i]? = some oi) (hsel : ∀ (j : Nat) (o : Oper) cs b, ops[j]? = some o → o.op ≠ .select cs b)
    (htail : ∀ listed, HeadInv .any ops n listed → ∀ i, i < n → listed.getD i true = false → ∀ t, n ≤ t → t ∉ Region.ready .any ops listed) (hin : i < n)
    (hdone : ∀ listed a F, L listed a F → ∀ j ∈ Region.ready .any ops listed, n ≤ j) :
    ∀ (f : Nat) (listed : Array Bool) (a : Act) (F : Fx), HeadInv .any ops n listed →
      (∀ j oj, ops[j]? = some oj → j ≠ i → listed.getD j true = false → (∀ e ∈ oj.after, Region.binds .any e = true → e.on ≠ i) → oi.apart ops oj = true) →
      i ∈ Region.ready .any ops listed → Sat p w0 F → StableF p F → YC p P ops S w0 i oi a F →
      Cont p P ops S w0 i oi a F (wpAnyC p P ops S w0 n L f (listed.setIfInBounds i true)) → wpAnyC p P ops S w0 n L (f + 1) listed a F := by
  intro f
  induction f with
  | zero =>
    intro listed a F inv _ hr hsat hst hy H
    have hun := (mem_ready.1 hr).1
    refine ⟨fun h => (by rw [h] at hr; cases hr), fun j hj => ?_⟩
    have hjn : j < n := by
      rcases Nat.lt_or_ge j n with h | h
      · exact h
      · exact absurd hj (htail listed inv i hin hun j h)
    refine ⟨hjn, ?_⟩
    by_cases hji : j = i
    · subst hji; exact ⟨oi, hi, hy, H⟩
    · exfalso
      have hL : ∃ a' F', L (listed.setIfInBounds i true) a' F' := by
        cases hw : Region.wanted oi (yielded ops a.tmps) with
        | true =>
          obtain ⟨w, he, hF⟩ := hsat
          obtain ⟨v, w', hx, hrel⟩ := exists_of_calm (fj := facts ops F i) he (fun k _ => hF k) (hy hw w he (fun k _ => hF k))
          exact ⟨_, _, H.1 hw v ⟨w', p.trans he hx, fun k => ⟨hst _ _ _ hx (hF k), fun _ => hrel⟩⟩⟩
        | false => exact ⟨_, _, H.2 hw⟩
      obtain ⟨a', F', hl⟩ := hL
      have := hdone _ _ _ hl j (ready_mono hj hji)
      omega
  | succ f ih =>
    intro listed a F inv hfree hr hsat hst hy H
    have hun := (mem_ready.1 hr).1
    refine ⟨fun h => (by rw [h] at hr; cases hr), fun j hj => ?_⟩
    have hjn : j < n := by
      rcases Nat.lt_or_ge j n with h | h
      · exact h
      · exact absurd hj (htail listed inv i hin hun j h)
    refine ⟨hjn, ?_⟩
    by_cases hji : j = i
    · subst hji; exact ⟨oi, hi, hy, H⟩
    · obtain ⟨hjun, oj, hoj, hall⟩ := mem_ready.1 hj
      have hnot : ∀ e ∈ oj.after, Region.binds .any e = true → e.on ≠ i := fun e he hb heq => by
        have h1 := hall e he hb
        rw [heq, getD_both hun] at h1
        cases h1
      obtain ⟨p1, p2, p3⟩ := Oper.apart_spec (hfree j oj hoj hji hjun hnot)
      have hsi := fun cs b => hsel i oi cs b hi
      have hsj := fun cs b => hsel j oj cs b hoj
      have bji : befB ops 3 j i = false := not_bef inv hj hun
      have bij : befB ops 3 i j = false := not_bef inv hr hjun
      -- what the head's continuation says of operation j behind operation i, at whatever value
      have after_i : ∀ a' F', wpAnyC p P ops S w0 n L (f + 1) (listed.setIfInBounds i true) a' F' → YC p P ops S w0 j oj a' F' ∧ Cont p P ops S w0 j oj a' F' (wpAnyC p P ops S w0 n L f ((listed.setIfInBounds i true).setIfInBounds j true)) := by
        intro a' F' h
        obtain ⟨_, o, ho, h1, h2⟩ := h.2 j (ready_mono hj hji)
        have : o = oj := Option.some.inj (ho.symm.trans hoj)
        subst this
        exact ⟨h1, h2⟩
      have wj : ∀ u, Region.wanted oj (yielded ops (a.put oi.dst u).tmps) = Region.wanted oj (yielded ops a.tmps) := fun u => wanted_put oj a oi.dst u p1
      have xj : ∀ u, execOp (a.put oi.dst u).eval oj = execOp a.eval oj := fun u => execOp_put oj hsj a oi.dst u p1
      have wi : ∀ u, Region.wanted oi (yielded ops (a.put oj.dst u).tmps) = Region.wanted oi (yielded ops a.tmps) := fun u => wanted_put oi a oj.dst u p3
      have xi : ∀ u, execOp (a.put oj.dst u).eval oi = execOp a.eval oi := fun u => execOp_put oi hsi a oj.dst u p3
      -- operation j yields now, too
      have yj : YC p P ops S w0 j oj a F := by
        intro hwj
        cases hw : Region.wanted oi (yielded ops a.tmps) with
        | true =>
          obtain ⟨w, he, hF⟩ := hsat
          obtain ⟨v, w', hx, hrel⟩ := exists_of_calm (fj := facts ops F i) he (fun k _ => hF k) (hy hw w he (fun k _ => hF k))
          have h1 := (after_i _ _ (H.1 hw v ⟨w', p.trans he hx, fun k => ⟨hst _ _ _ hx (hF k), fun _ => hrel⟩⟩)).1
          unfold YC at h1
          rw [wj, xj, facts_put bji] at h1
          exact h1 hwj
        | false =>
          have h1 := (after_i _ _ (H.2 hw)).1
          unfold YC at h1
          rw [wj, xj] at h1
          exact h1 hwj
      have hfree' : ∀ k ok, ops[k]? = some ok → k ≠ i → (listed.setIfInBounds j true).getD k true = false →
          (∀ e ∈ ok.after, Region.binds .any e = true → e.on ≠ i) → oi.apart ops ok = true := fun k ok hk hki hun' hno => by
        refine hfree k ok hk hki ?_ hno
        by_cases hjk : j = k
        · subst hjk; exact hjun
        · rw [getD_set_ne true hjk] at hun'; exact hun'
      refine ⟨oj, hoj, yj, fun hwj u hsu => ?_, fun hwj => ?_⟩
      · -- operation j is taken, with u
        generalize hFj : F.put j (Rel p P w0 (execOp a.eval oj) (facts ops F j) (S j) u) = Fj at *
        have hfi : facts ops Fj i = facts ops F i := by rw [← hFj]; exact facts_put bij
        have hstj : StableF p Fj := by rw [← hFj]; exact hst.put (rel_stable hS)
        refine ih (listed.setIfInBounds j true) (a.put oj.dst u) Fj (inv.set hj hjn) hfree' (ready_mono hr (Ne.symm hji)) hsu hstj ?_ ⟨fun hwi v hsv => ?_, fun hwi => ?_⟩
        · unfold YC
          rw [wi, xi, hfi]
          exact hy
        · rw [wi] at hwi
          rw [xi, hfi] at hsv ⊢
          obtain ⟨w, he, hw⟩ := hsv
          have hsi : Sat p w0 (F.put i (Rel p P w0 (execOp a.eval oi) (facts ops F i) (S i) v)) := by
            refine ⟨w, he, fun k => ⟨?_, fun e => (hw k).2 e⟩⟩
            have := (hw k).1
            rw [← hFj] at this
            exact this.1
          have h2 := (after_i _ _ (H.1 hwi v hsi)).2.1
          rw [wj, xj, facts_put bji] at h2
          have h3 := h2 hwj u ⟨w, he, fun k => ⟨⟨by have := (hw k).1; rw [← hFj] at this; exact this.1, fun e => (hw k).2 e⟩, fun e => by have := (hw k).1; rw [← hFj] at this; exact this.2 e⟩⟩
          rw [Array.setIfInBounds_comm _ _ hji, ← hFj, Fx.put_comm, Act.put_comm a u v (fun d hd hd' => p2 d hd' hd)]
          exact h3
        · rw [wi] at hwi
          have h2 := (after_i _ _ (H.2 hwi)).2.1
          rw [wj, xj] at h2
          have h3 := h2 hwj u (by rw [hFj]; exact hsu)
          rw [Array.setIfInBounds_comm _ _ hji, ← hFj, Act.put_comm a u undef (fun d hd hd' => p2 d hd' hd)]
          exact h3
      · refine ih (listed.setIfInBounds j true) (a.put oj.dst undef) F (inv.set hj hjn) hfree' (ready_mono hr (Ne.symm hji)) hsat hst ?_ ⟨fun hwi v hsv => ?_, fun hwi => ?_⟩
        · unfold YC
          rw [wi, xi]
          exact hy
        · rw [wi] at hwi
          rw [xi] at hsv ⊢
          have h2 := (after_i _ _ (H.1 hwi v hsv)).2.2
          rw [wj] at h2
          have h3 := h2 hwj
          rw [Array.setIfInBounds_comm _ _ hji, Act.put_comm a undef v (fun d hd hd' => p2 d hd' hd)]
          exact h3
        · rw [wi] at hwi
          have h2 := (after_i _ _ (H.2 hwi)).2.2
          rw [wj] at h2
          have h3 := h2 hwj
          rw [Array.setIfInBounds_comm _ _ hji, Act.put_comm a undef undef (fun d hd hd' => p2 d hd' hd)]
          exact h3
end

/-! ### The order of the text, and a tail that is forced -/

section
variable {p : Pre} {P : Program} {ops : Array Oper} {S : Spec} {w0 : World}

theorem Cont.sat {K K' : Act → Fx → Prop} {j : Nat} {o : Oper} {a : Act} {F : Fx} (hS : StableS p S) (hst : StableF p F) (h : ∀ a F, Sat p w0 F → StableF p F → K a F → K' a F) (hs : Sat p w0 F) (hc : Cont p P ops S w0 j o a F K) : Cont p P ops S w0 j o a F K' :=
  ⟨fun hw v hv => h _ _ hv (hst.put (rel_stable hS)) (hc.1 hw v hv), fun hw => h _ _ hs hst (hc.2 hw)⟩

theorem wpAnyC_lex {n g : Nat} {Lq : Act → Fx → Prop} (hS : StableS p S) (hsel : Region.noSelect ops = true)
    (htail : ∀ listed, HeadInv .any ops n listed → ∀ i, i < n → listed.getD i true = false → ∀ t, n ≤ t → t ∉ Region.ready .any ops listed) :
    ∀ (l : List Oper) (k : Nat) (listed : Array Bool) (a : Act) (F : Fx), (∀ j, j < l.length → l[j]? = ops[k + j]?) → k + l.length = n → HeadInv .any ops n listed →
    Region.lexHead .any ops g l.length k listed = true → Sat p w0 F → StableF p F → wpCalm p P ops S w0 Lq l k a F →
    wpAnyC p P ops S w0 n (fun listed' a' F' => Region.seqB .any ops g n listed' = true ∧ Lq a' F') l.length listed a F
  | [], k, listed, a, F, _, hk, _, hB, _, _, h => by
    have : k = n := by simpa using hk
    subst this
    exact ⟨by simpa [Region.lexHead] using hB, h⟩
  | o :: l, k, listed, a, F, hl, hk, inv, hB, hs, hst, h => by
    have h0 : ops[k]? = some o := by simpa using (hl 0 (by simp)).symm
    simp only [List.length_cons, Region.lexHead, Bool.and_eq_true] at hB
    obtain ⟨⟨hr, hf⟩, hB'⟩ := hB
    have hkn : k < n := by simp only [List.length_cons] at hk; omega
    have hr' : k ∈ Region.ready .any ops listed := by simpa using hr
    refine wpAnyC_first hS h0 (Region.noSelect_spec hsel) htail hkn (fun listed' a' F' hL => seqB_ready hL.1) l.length listed a F inv (Region.free_spec h0 hf) hr' hs hst h.1 ?_
    exact Cont.sat hS hst (fun a' F' hs' hst' hK => wpAnyC_lex hS hsel htail l (k + 1) _ a' F' (fun j hj => by have := hl (j + 1) (by simp; omega); simpa [Nat.add_assoc, Nat.add_comm 1 j] using this)
      (by simp only [List.length_cons] at hk; omega) (inv.set hr' hkn) hB' hs' hst' hK) hs h.2

theorem wp_region_calm {id : Nat} {Q : Exit → Act → World → Prop} {a : Act} {w : World} {l : List Oper} (n : Nat) (S : Spec) (hS : StableS p S) (hm : P.follows .mixedOrders = true) (hB : calmB l.toArray n = true)
    (h : wpCalm p P l.toArray S w (fun a' F => ∀ w', p.R w w' → (∀ k, F k w') → wpList P l.toArray Q (l.drop n) a' w') (l.take n) 0 a (fun _ _ => True)) : (Code.region id l.toArray true).wp P Q a w := by
  simp only [calmB, Bool.and_eq_true, Bool.or_eq_true, decide_eq_true_eq] at hB
  obtain ⟨⟨hsel, hn⟩, hlex⟩ := hB
  have hn' : n ≤ l.length := by
    rcases hn with h1 | h1
    · rw [h1]; simp
    · have := h1.1.1; simp at this; omega
  have htl : (l.take n).length = n := by simp; omega
  have hdl : (l.drop n).length = l.toArray.size - n := by simp
  have htail := calm_tail (ops := l.toArray) (n := n) (by rcases hn with h1 | h1; exact .inl h1; exact .inr ⟨h1.1.1, h1.1.2, h1.2⟩)
  have inv0 : HeadInv .any l.toArray n (Array.replicate l.toArray.size false) :=
    ⟨by simp, fun j oj _ hl => (by rw [getD_replicate_false] at hl; cases hl), fun t _ ht => getD_in (by simpa using ht) (getD_replicate_false _ _)⟩
  have H := wpAnyC_lex (g := l.toArray.size - n) hS hsel htail (l.take n) 0 _ a _ (fun j hj => by
    have hj' : j < n := by rw [htl] at hj; exact hj
    simp [hj']) (by simpa using htl) inv0 (by rw [htl]; exact hlex) ⟨w, p.refl _, fun _ => trivial⟩ (fun _ _ _ _ h => h) h
  refine wp_region_any hm ?_
  have := wpAny_of_headC (P := P) (ops := l.toArray) (S := S) (w0 := w) (n := n) (Q' := Q) (g := l.toArray.size - n) hS (fun listed a' F w1 he hF hL => by
    have := wpAny_of_seq (md := .any) (Q' := Q) (l.drop n) n listed a' w1 (fun j => by simp [List.getElem?_drop]) (by rw [hdl]; exact hL.1) (hL.2 w1 he hF)
    rwa [hdl] at this) (l.take n).length (Array.replicate l.toArray.size false) a (fun _ _ => True) { w with drawn := w.drawn + 1 } (p.drawn (p.refl w) _) (fun _ => trivial) (fun _ _ _ _ h => h) H
  rw [htl, show n + (l.toArray.size - n) = l.toArray.size by omega] at this
  exact this

/-! ### Steps -/

theorem wpCalm_mono {Q : Act → Fx → Prop} (hQ : MonoQ Q) : ∀ (l : List Oper) (k : Nat) (a : Act) (F F' : Fx), (∀ k w, F' k w → F k w) → wpCalm p P ops S w0 Q l k a F → wpCalm p P ops S w0 Q l k a F'
  | [], _, a, F, F', h, hh => hQ a F F' h hh
  | o :: l, k, a, F, F', h, ⟨hy, hn⟩ => by
    have hf : ∀ w, facts ops F' k w → facts ops F k w := fun w hf i hi => h _ _ (hf i hi)
    have hr : ∀ v w, Rel p P w0 (execOp a.eval o) (facts ops F' k) (S k) v w → Rel p P w0 (execOp a.eval o) (facts ops F k) (S k) v w := fun v w ⟨w1, h1, h2, h3⟩ => ⟨w1, h1, hf _ h2, h3⟩
    have hp : ∀ v, ∀ i w, (F'.put k (Rel p P w0 (execOp a.eval o) (facts ops F' k) (S k) v)) i w → (F.put k (Rel p P w0 (execOp a.eval o) (facts ops F k) (S k) v)) i w := fun v i w hh => ⟨h _ _ hh.1, fun e => hr _ _ (hh.2 e)⟩
    exact ⟨fun hw w he hf' => hy hw w he (hf w hf'), fun hw v ⟨w, he, hs⟩ => wpCalm_mono hQ l (k + 1) _ _ _ (hp v) (hn.1 hw v ⟨w, he, fun i => hp v i w (hs i)⟩), fun hw => wpCalm_mono hQ l (k + 1) _ _ _ h (hn.2 hw)⟩

theorem calm_mono_final {Q : Act → World → Prop} : MonoQ (fun a F => ∀ w', p.R w0 w' → (∀ k, F k w') → Q a w') := fun _ _ _ h hq w' he hF => hq w' he (fun k => h _ _ (hF k))

/-- Operations that leave the world alone: by the quiet walk (Derived/Deep/Quiet.lean), in the class of all worlds that hold what w0 holds. -/
theorem calm_chunk {Q : Act → Fx → Prop} (hQ : MonoQ Q) (b : World) (hb : ∀ w, p.R w0 w → Ext b w) : ∀ (l l2 : List Oper) (k : Nat) (a : Act) (F : Fx), (l.all fun o => quietKind o) = true →
    wpQuiet P ops (fun w => ∃ x : Later b, w = x.w) (fun a' => wpCalm p P ops S w0 Q l2 (k + l.length) a' F) l a → wpCalm p P ops S w0 Q (l ++ l2) k a F := by
  intro l
  induction l with
  | nil => intro l2 k a F _ h; exact h
  | cons o l ih =>
    intro l2 k a F hk h
    simp only [List.all_cons, Bool.and_eq_true] at hk
    unfold wpQuiet at h
    have hlen : k + (o :: l).length = (k + 1) + l.length := by simp only [List.length_cons]; omega
    rw [hlen] at h
    cases hw : Region.wanted o (yielded ops a.tmps) with
    | true =>
      rw [hw, if_pos rfl] at h
      obtain ⟨v, h1, h2⟩ := h
      -- what comes out, in any world: v, and nothing else has happened, or (for a row of the model's own) a call
      refine ⟨fun _ w he _ => ?_, fun _ u hu => ?_, fun hf => by rw [hw] at hf; cases hf⟩
      · have h3 := h1 w ⟨⟨w, hb w he⟩, rfl⟩
        have hne := noEnter_of_quietKind (P := P) hk.1 a.eval w
        unfold Oper.quietAt at h3
        generalize (execOp a.eval o).run P w = r at *
        cases r with
        | ok n w' =>
          cases n <;> simp only [Oper.quietUpon] at h3 <;> simp only [calmUpon]
          case value x => obtain ⟨e, _⟩ := h3; rw [e]; exact p.refl _
          case skip => obtain ⟨e, _⟩ := h3; rw [e]; exact p.refl _
          case enter f args => exact hne.elim
        | halt x w' => simp only [Oper.quietUpon] at h3
      · obtain ⟨w, he, hs⟩ := hu
        obtain ⟨w1, he1, _, hg⟩ := (hs k).2 rfl
        have h3 := h1 w1 ⟨⟨w1, hb w1 he1⟩, rfl⟩
        have hne := noEnter_of_quietKind (P := P) hk.1 a.eval w1
        have huv : u = v := by
          unfold Oper.quietAt at h3
          generalize (execOp a.eval o).run P w1 = r at *
          cases r with
          | ok n w' =>
            cases n <;> simp only [Oper.quietUpon] at h3 <;> simp only [gives] at hg
            case value x => rw [hg.1, h3.2]
            case skip => rw [hg.1, h3.2]
            case enter f args => exact hne.elim
          | halt x w' => simp only [Oper.quietUpon] at h3
        subst huv
        exact wpCalm_mono hQ _ _ _ F _ (fun _ _ hh => hh.1) (ih l2 (k + 1) _ F hk.2 h2)
    | false =>
      rw [hw] at h
      exact ⟨fun hf => (by rw [hw] at hf; cases hf), fun hf => (by rw [hw] at hf; cases hf), fun _ => ih l2 (k + 1) _ F hk.2 h⟩

theorem calm_nil {Q : Act → Fx → Prop} {k : Nat} {a : Act} {F : Fx} (h : Q a F) : wpCalm p P ops S w0 Q [] k a F := h

/-- A call of a Go function: its result is any value that S lets by. -/
theorem calm_call {Q : Act → Fx → Prop} {o : Oper} {l : List Oper} {k : Nat} {a : Act} {F : Fx} (hQ : MonoQ Q) (f : FuncId) (args : Array Value) (hw : Region.wanted o (yielded ops a.tmps) = true)
    (hrun : ∀ w, (execOp a.eval o).run P w = .ok (.enter f args) w)
    (hcall : ∀ w, p.R w0 w → facts ops F k w → Calls P f args w (fun e w'' => ∃ v, e = .returned v ∧ p.R w w'' ∧ S k args v w''))
    (hn : ∀ v w', p.R w0 w' → S k args v w' → wpCalm p P ops S w0 Q l (k + 1) (a.put o.dst v) (F.put k (S k args v))) : wpCalm p P ops S w0 Q (o :: l) k a F := by
  refine ⟨fun _ w he hf => ?_, fun _ v hv => ?_, fun hf => by rw [hw] at hf; cases hf⟩
  · rw [hrun]; exact hcall w he hf
  · have hS : ∀ w', Rel p P w0 (execOp a.eval o) (facts ops F k) (S k) v w' → S k args v w' := fun w' ⟨w1, _, _, h⟩ => by rw [hrun] at h; exact h
    obtain ⟨w', he, hs⟩ := hv
    exact wpCalm_mono hQ _ _ _ _ _ (fun i w h => ⟨h.1, fun e => hS _ (h.2 e)⟩) (hn v w' he (hS _ ((hs k).2 rfl)))

/-- The chunk, with its number of operations. -/
theorem calm_quiet {Q : Act → Fx → Prop} (hQ : MonoQ Q) (b : World) (hb : ∀ w, p.R w0 w → Ext b w) (m : Nat) {l : List Oper} {k : Nat} {a : Act} {F : Fx} (hk : ((l.take m).all fun o => quietKind o) = true)
    (h : wpQuiet P ops (fun w => ∃ x : Later b, w = x.w) (fun a' => wpCalm p P ops S w0 Q (l.drop m) (k + (l.take m).length) a' F) (l.take m) a) : wpCalm p P ops S w0 Q l k a F := by
  rw [← List.take_append_drop m l]
  exact calm_chunk hQ b hb _ _ _ _ _ hk h
end

section
variable {p : Pre} {P : Program} {ops : Array Oper} {S : Spec} {w0 : World}
/-- An operation that is not wanted. -/
theorem calm_skip {Q : Act → Fx → Prop} {o : Oper} {l : List Oper} {k : Nat} {a : Act} {F : Fx} (hw : Region.wanted o (yielded ops a.tmps) = false)
    (hn : wpCalm p P ops S w0 Q l (k + 1) (a.put o.dst undef) F) : wpCalm p P ops S w0 Q (o :: l) k a F :=
  ⟨fun h => by (rw [hw] at h; cases h), fun h => by (rw [hw] at h; cases h), fun _ => hn⟩

/-- A store. -/
theorem calm_store {Q : Act → Fx → Prop} {o : Oper} {l : List Oper} {k : Nat} {a : Act} {F : Fx} (hQ : MonoQ Q) (ad : Addr) (u : Value) (hw : Region.wanted o (yielded ops a.tmps) = true)
    (hrun : ∀ w, p.R w0 w → (execOp a.eval o).run P w = .ok .skip (w.setCell ad u))
    (hR : ∀ w, p.R w0 w → p.R w (w.setCell ad u))
    (hn : wpCalm p P ops S w0 Q l (k + 1) (a.put o.dst undef) (F.put k (fun w => ∃ w1, p.R w0 w1 ∧ p.R (w1.setCell ad u) w))) : wpCalm p P ops S w0 Q (o :: l) k a F := by
  refine ⟨fun _ w he _ => ?_, fun _ v hv => ?_, fun hf => by rw [hw] at hf; cases hf⟩
  · rw [hrun w he]; exact hR w he
  · obtain ⟨w', he, hs⟩ := hv
    obtain ⟨w1, he1, _, hg⟩ := (hs k).2 rfl
    rw [hrun w1 he1] at hg
    obtain ⟨rfl, hx⟩ := hg
    refine wpCalm_mono hQ _ _ _ _ _ (fun i w h => ⟨h.1, fun e => ?_⟩) hn
    obtain ⟨w2, h1, _, h2⟩ := h.2 e
    rw [hrun w2 h1] at h2
    exact ⟨w2, h1, h2.2⟩
end
end Cw
end Go.Proofs.Yteilglljigjefaa

/- Regions that draw their order: as XCw, and what some operations make lies apart from what the others make. No program in sight. -/
namespace Go.Proofs.Yteilglljigjefaa
/-- The block of a slice or of a pointer. -/
def pbV : Value → Option Nat
  | .slice (some a) _ _ => some a.block
  | .pointer (some a) => some a.block
  | _ => none
open Go.RowKit
namespace Cg

/-- A kind of growth. -/
structure Pre where
  R : World → World → Prop
  refl : ∀ w, R w w
  trans : ∀ {a b c}, R a b → R b c → R a c
  drawn : ∀ {a w : World}, R a w → ∀ n, R a { w with drawn := n }
  size : ∀ {a b : World}, R a b → a.heap.size ≤ b.heap.size

/-! ### The theory -/

/-- What has been made new. -/
abbrev VV := Value → Prop
def VV.put (fr : Nat → Bool) (V : VV) (j : Nat) (v : Value) : VV := fun u => V u ∨ (fr j = true ∧ u = v)
def InW (V : VV) (w : World) : Prop := ∀ u, V u → ∃ g, pbV u = some g ∧ g < w.heap.size
def Far (V : VV) (v : Value) : Prop := ∀ u, V u → pbV u ≠ pbV v
def New (v : Value) (w w' : World) : Prop := ∃ g, pbV v = some g ∧ w.heap.size ≤ g ∧ g < w'.heap.size
/-- What is known: facts on worlds, and what has been made new. -/
structure Gx where
  F : Fx
  V : VV
def Gx.put (fr : Nat → Bool) (G : Gx) (j : Nat) (T : World → Prop) (v : Value) : Gx := ⟨G.F.put j T, G.V.put fr j v⟩
def Gx.Holds (G : Gx) (w : World) : Prop := (∀ k, G.F k w) ∧ InW G.V w
def Sat (p : Pre) (w0 : World) (G : Gx) : Prop := ∃ w, p.R w0 w ∧ G.Holds w

theorem VV.put_comm (fr : Nat → Bool) (V : VV) (i j : Nat) (u v : Value) : (V.put fr i u).put fr j v = (V.put fr j v).put fr i u := by
  funext x
  apply propext
  constructor
  · rintro ((h | h) | h)
    · exact .inl (.inl h)
    · exact .inr h
    · exact .inl (.inr h)
  · rintro ((h | h) | h)
    · exact .inl (.inl h)
    · exact .inr h
    · exact .inl (.inr h)
theorem InW.put {fr : Nat → Bool} {V : VV} {j : Nat} {v : Value} {w w' : World} (h : InW V w) (hs : w.heap.size ≤ w'.heap.size) (hn : fr j = true → New v w w') : InW (V.put fr j v) w' := fun u hu => by
  rcases hu with hu | ⟨hf, rfl⟩
  · obtain ⟨g, hg, hl⟩ := h u hu
    exact ⟨g, hg, Nat.lt_of_lt_of_le hl hs⟩
  · obtain ⟨g, hg, _, hl⟩ := hn hf
    exact ⟨g, hg, hl⟩
theorem InW.back {fr : Nat → Bool} {V : VV} {j : Nat} {v : Value} {w : World} (h : InW (V.put fr j v) w) : InW V w := fun u hu => h u (.inl hu)
theorem Far.of_new {V : VV} {v : Value} {w w' : World} (h : InW V w) (hn : New v w w') : Far V v := fun u hu e => by
  obtain ⟨g, hg, hl⟩ := h u hu
  obtain ⟨g', hg', hl', _⟩ := hn
  rw [hg, hg'] at e
  injection e with e
  omega
theorem Far.put {fr : Nat → Bool} {V : VV} {i : Nat} {u v : Value} (h : Far V u) (hi : fr i = true → pbV v ≠ pbV u) : Far (V.put fr i v) u := fun x hx => by
  rcases hx with hx | ⟨hf, rfl⟩
  · exact h x hx
  · exact hi hf

theorem Gx.put_comm (fr : Nat → Bool) (G : Gx) (i j : Nat) (R T : World → Prop) (u v : Value) : (G.put fr i R u).put fr j T v = (G.put fr j T v).put fr i R u := by
  unfold Gx.put
  rw [Fx.put_comm, VV.put_comm]

def calmUpon (p : Pre) (P : Program) (w : World) (fj : Bool) (Sj : Array Value → Value → World → Prop) : Result Next → Prop
  | .ok (.value u) w' => p.R w w' ∧ (fj = true → New u w w')
  | .ok .skip w' => p.R w w' ∧ fj = false
  | .ok (.enter f args) w' => Calls P f args w' (fun e w'' => ∃ v, e = .returned v ∧ p.R w w'' ∧ Sj args v w'' ∧ (fj = true → New v w w''))
  | _ => False

def gives (p : Pre) (Sj : Array Value → Value → World → Prop) (v : Value) (w' : World) : Result Next → Prop
  | .ok (.value u) w2 => v = u ∧ p.R w2 w'
  | .ok .skip w2 => v = undef ∧ p.R w2 w'
  | .ok (.enter _ args) _ => Sj args v w'
  | _ => False

section
variable (p : Pre) (P : Program) (ops : Array Oper) (S : Spec) (fr : Nat → Bool) (w0 : World)

def Rel (x : Sem Next) (fj : World → Prop) (Sj : Array Value → Value → World → Prop) (v : Value) (w' : World) : Prop :=
  ∃ w1, p.R w0 w1 ∧ fj w1 ∧ gives p Sj v w' (x.run P w1)

def YC (j : Nat) (o : Oper) (a : Act) (F : Gx) : Prop :=
  Region.wanted o (yielded ops a.tmps) = true → ∀ w, p.R w0 w → facts ops F.F j w → calmUpon p P w (fr j) (S j) ((execOp a.eval o).run P w)

def Cont (j : Nat) (o : Oper) (a : Act) (F : Gx) (K : Act → Gx → Prop) : Prop :=
  (Region.wanted o (yielded ops a.tmps) = true → ∀ v, (fr j = true → Far F.V v) → Sat p w0 (F.put fr j (Rel p P w0 (execOp a.eval o) (facts ops F.F j) (S j) v) v) →
    K (a.put o.dst v) (F.put fr j (Rel p P w0 (execOp a.eval o) (facts ops F.F j) (S j) v) v)) ∧
  (Region.wanted o (yielded ops a.tmps) = false → K (a.put o.dst undef) F)

def cOp (j : Nat) (K : Act → Gx → Prop) (a : Act) (F : Gx) : Prop :=
  ∃ o, ops[j]? = some o ∧ YC p P ops S fr w0 j o a F ∧ Cont p P ops S fr w0 j o a F K

def wpCalm (Q : Act → Gx → Prop) : List Oper → Nat → Act → Gx → Prop
  | [], _, a, F => Q a F
  | o :: rest, k, a, F => YC p P ops S fr w0 k o a F ∧ Cont p P ops S fr w0 k o a F (wpCalm Q rest (k + 1))

def wpAnyC (n : Nat) (L : Array Bool → Act → Gx → Prop) : Nat → Array Bool → Act → Gx → Prop
  | 0, listed, a, F => L listed a F
  | f + 1, listed, a, F =>
    Region.ready .any ops listed ≠ [] ∧ ∀ i ∈ Region.ready .any ops listed, i < n ∧ cOp p P ops S fr w0 i (wpAnyC n L f (listed.setIfInBounds i true)) a F
end

def StableF (p : Pre) (F : Gx) : Prop := ∀ k w w', p.R w w' → F.F k w → F.F k w'
def StableS (p : Pre) (S : Spec) : Prop := ∀ j args v w w', p.R w w' → S j args v w → S j args v w'

section
variable {p : Pre} {P : Program} {ops : Array Oper} {S : Spec} {fr : Nat → Bool} {w0 : World}

theorem gives_stable {Sj : Array Value → Value → World → Prop} (hS : ∀ args v w w', p.R w w' → Sj args v w → Sj args v w') {v : Value} {w w' : World} {r : Result Next} (he : p.R w w') (h : gives p Sj v w r) : gives p Sj v w' r := by
  unfold gives at *
  split at h
  · exact ⟨h.1, p.trans h.2 he⟩
  · exact ⟨h.1, p.trans h.2 he⟩
  · exact hS _ _ _ _ he h
  · exact h.elim

theorem StableF.put {F : Gx} (h : StableF p F) {i : Nat} {T : World → Prop} {v : Value} (hT : ∀ w w', p.R w w' → T w → T w') : StableF p (F.put fr i T v) :=
  fun k w w' he hk => ⟨h k w w' he hk.1, fun e => hT _ _ he (hk.2 e)⟩

theorem rel_stable (hS : StableS p S) {x : Sem Next} {fj : World → Prop} {j : Nat} {v : Value} : ∀ w w', p.R w w' → Rel p P w0 x fj (S j) v w → Rel p P w0 x fj (S j) v w' :=
  fun _ _ he ⟨w1, h1, h2, h3⟩ => ⟨w1, h1, h2, gives_stable (hS j) he h3⟩

/-- From an actual world: the operation runs, and what comes out is related. -/
theorem wp_of_calm {o : Oper} {a : Act} {w : World} {j : Nat} {fj : World → Prop} {K' : Act → World → Prop} {Q' : Exit → Act → World → Prop}
    (he : p.R w0 w) (hf : fj w) (hu : calmUpon p P w (fr j) (S j) ((execOp a.eval o).run P w))
    (h : ∀ v w', p.R w w' → Rel p P w0 (execOp a.eval o) fj (S j) v w' → (fr j = true → New v w w') → K' (a.put o.dst v) w') : o.wp P a w K' Q' := by
  have h' : ∀ v w', p.R w w' → gives p (S j) v w' ((execOp a.eval o).run P w) → (fr j = true → New v w w') → K' (a.put o.dst v) w' := fun v w' h1 h2 => h v w' h1 ⟨w, he, hf, h2⟩
  clear h
  unfold Oper.wp
  generalize (execOp a.eval o).run P w = r at *
  cases r with
  | ok n w' =>
    cases n <;> simp only [calmUpon] at hu <;> simp only [Oper.upon]
    case value u => exact h' _ _ hu.1 ⟨rfl, p.refl _⟩ hu.2
    case skip => exact h' _ _ hu.1 ⟨rfl, p.refl _⟩ (fun e => by rw [hu.2] at e; cases e)
    case enter f args => exact hu.mono fun e w'' ⟨v, he', hx, hs, hn⟩ => by subst he'; exact h' _ _ hx hs hn
  | halt x w' => simp only [calmUpon] at hu

/-- There is a value that comes out. -/
theorem exists_of_calm {x : Sem Next} {w : World} {j : Nat} {fj : World → Prop} (he : p.R w0 w) (hf : fj w) (hu : calmUpon p P w (fr j) (S j) (x.run P w)) :
    ∃ v w', p.R w w' ∧ Rel p P w0 x fj (S j) v w' ∧ (fr j = true → New v w w') := by
  have key : ∃ v w', p.R w w' ∧ gives p (S j) v w' (x.run P w) ∧ (fr j = true → New v w w') := by
    generalize x.run P w = r at *
    cases r with
    | ok n w' =>
      cases n <;> simp only [calmUpon] at hu
      case value u => exact ⟨u, w', hu.1, ⟨rfl, p.refl _⟩, hu.2⟩
      case skip => exact ⟨undef, w', hu.1, ⟨rfl, p.refl _⟩, fun e => by rw [hu.2] at e; cases e⟩
      case enter f args =>
        obtain ⟨e, w'', _, ⟨v, _, hx, hs, hn⟩, _⟩ := hu []
        exact ⟨v, w'', hx, hs, hn⟩
    | halt x w' => simp only [calmUpon] at hu
  obtain ⟨v, w', h1, h2, h3⟩ := key
  exact ⟨v, w', h1, ⟨w, he, hf, h2⟩, h3⟩

/-- Behind the operation all that was known holds, and what it says. -/
theorem Gx.Holds.put {F : Gx} {j : Nat} {T : World → Prop} {v : Value} {w w' : World} (hst : StableF p F) (hF : F.Holds w) (hx : p.R w w') (hT : T w') (hn : fr j = true → New v w w') : (F.put fr j T v).Holds w' :=
  ⟨fun k => ⟨hst _ _ _ hx (hF.1 k), fun _ => hT⟩, hF.2.put (p.size hx) hn⟩

theorem wpOp_of_cOp {j : Nat} {a : Act} {F : Gx} {w : World} {K : Act → Gx → Prop} {K' : Act → World → Prop} {Q' : Exit → Act → World → Prop} (hS : StableS p S)
    (he : p.R w0 w) (hF : F.Holds w) (hst : StableF p F) (h : ∀ a F w', p.R w0 w' → F.Holds w' → StableF p F → K a F → K' a w') (hc : cOp p P ops S fr w0 j K a F) : wpOp P ops Q' j K' a w := by
  obtain ⟨o, ho, hy, hn⟩ := hc
  unfold wpOp
  simp only [ho]
  cases hw : Region.wanted o (yielded ops a.tmps) with
  | true =>
    simp only [if_true]
    refine .inl (wp_of_calm (S := S) (fr := fr) (j := j) (fj := facts ops F.F j) he (fun k _ => hF.1 k) (hy hw w he (fun k _ => hF.1 k)) fun v w' hx hr hnew => ?_)
    have hx0 := p.trans he hx
    have hF' : (F.put fr j (Rel p P w0 (execOp a.eval o) (facts ops F.F j) (S j) v) v).Holds w' := Gx.Holds.put hst hF hx hr hnew
    exact h _ _ _ hx0 hF' (hst.put (rel_stable hS)) (hn.1 hw v (fun e => Far.of_new hF.2 (hnew e)) ⟨w', hx0, hF'⟩)
  | false =>
    simp only [Bool.false_eq_true, if_false]
    exact h _ _ _ he hF hst (hn.2 hw)

theorem wpAny_of_headC {n g : Nat} {L : Array Bool → Act → Gx → Prop} {Q' : Exit → Act → World → Prop} (hS : StableS p S)
    (hL : ∀ listed a F w, p.R w0 w → F.Holds w → L listed a F → wpAny P .any ops Q' g listed a w) :
    ∀ (f : Nat) (listed : Array Bool) (a : Act) (F : Gx) (w : World), p.R w0 w → F.Holds w → StableF p F → wpAnyC p P ops S fr w0 n L f listed a F → wpAny P .any ops Q' (f + g) listed a w
  | 0, listed, a, F, w, he, hF, _, h => by rw [Nat.zero_add]; exact hL _ _ _ _ he hF h
  | f + 1, listed, a, F, w, he, hF, hst, h => by
    rw [show f + 1 + g = (f + g) + 1 by omega]
    exact ⟨fun h0 => absurd h0 h.1, fun i hi => wpOp_of_cOp hS he hF hst (fun a' F' w' he' hF' hst' h' => wpAny_of_headC hS hL f _ a' F' w' he' hF' hst' h') (h.2 i hi).2⟩

theorem wpAnyC_first {n i : Nat} {oi : Oper} {L : Array Bool → Act → Gx → Prop} (hS : StableS p S) (hi : ops[i]? = some oi) (hsel : ∀ (j : Nat) (o : Oper) cs b, ops[j]? = some o → o.op ≠ .select cs b)
    (htail : ∀ listed, HeadInv .any ops n listed → ∀ i, i < n → listed.getD i true = false → ∀ t, n ≤ t → t ∉ Region.ready .any ops listed) (hin : i < n)
    (hdone : ∀ listed a F, L listed a F → ∀ j ∈ Region.ready .any ops listed, n ≤ j) :
    ∀ (f : Nat) (listed : Array Bool) (a : Act) (F : Gx), HeadInv .any ops n listed →
      (∀ j oj, ops[j]? = some oj → j ≠ i → listed.getD j true = false → (∀ e ∈ oj.after, Region.binds .any e = true → e.on ≠ i) → oi.apart ops oj = true) →
      i ∈ Region.ready .any ops listed → Sat p w0 F → StableF p F → YC p P ops S fr w0 i oi a F →
      Cont p P ops S fr w0 i oi a F (wpAnyC p P ops S fr w0 n L f (listed.setIfInBounds i true)) → wpAnyC p P ops S fr w0 n L (f + 1) listed a F := by
  intro f
  induction f with
  | zero =>
    intro listed a F inv _ hr hsat hst hy H
    have hun := (mem_ready.1 hr).1
    refine ⟨fun h => (by rw [h] at hr; cases hr), fun j hj => ?_⟩
    have hjn : j < n := by
      rcases Nat.lt_or_ge j n with h | h
      · exact h
      · exact absurd hj (htail listed inv i hin hun j h)
    refine ⟨hjn, ?_⟩
    by_cases hji : j = i
    · subst hji; exact ⟨oi, hi, hy, H⟩
    · exfalso
      have hL : ∃ a' F', L (listed.setIfInBounds i true) a' F' := by
        cases hw : Region.wanted oi (yielded ops a.tmps) with
        | true =>
          obtain ⟨w, he, hF⟩ := hsat
          obtain ⟨v, w', hx, hrel, hnew⟩ := exists_of_calm (fr := fr) (fj := facts ops F.F i) he (fun k _ => hF.1 k) (hy hw w he (fun k _ => hF.1 k))
          exact ⟨_, _, H.1 hw v (fun e => Far.of_new hF.2 (hnew e)) ⟨w', p.trans he hx, Gx.Holds.put hst hF hx hrel hnew⟩⟩
        | false => exact ⟨_, _, H.2 hw⟩
      obtain ⟨a', F', hl⟩ := hL
      have := hdone _ _ _ hl j (ready_mono hj hji)
      omega
  | succ f ih =>
    intro listed a F inv hfree hr hsat hst hy H
    have hun := (mem_ready.1 hr).1
    refine ⟨fun h => (by rw [h] at hr; cases hr), fun j hj => ?_⟩
    have hjn : j < n := by
      rcases Nat.lt_or_ge j n with h | h
      · exact h
      · exact absurd hj (htail listed inv i hin hun j h)
    refine ⟨hjn, ?_⟩
    by_cases hji : j = i
    · subst hji; exact ⟨oi, hi, hy, H⟩
    · obtain ⟨hjun, oj, hoj, hall⟩ := mem_ready.1 hj
      have hnot : ∀ e ∈ oj.after, Region.binds .any e = true → e.on ≠ i := fun e he hb heq => by
        have h1 := hall e he hb
        rw [heq, getD_both hun] at h1
        cases h1
      obtain ⟨p1, p2, p3⟩ := Oper.apart_spec (hfree j oj hoj hji hjun hnot)
      have hsi := fun cs b => hsel i oi cs b hi
      have hsj := fun cs b => hsel j oj cs b hoj
      have bji : befB ops 3 j i = false := not_bef inv hj hun
      have bij : befB ops 3 i j = false := not_bef inv hr hjun
      -- what the head's continuation says of operation j behind operation i, at whatever value
      have after_i : ∀ a' F', wpAnyC p P ops S fr w0 n L (f + 1) (listed.setIfInBounds i true) a' F' → YC p P ops S fr w0 j oj a' F' ∧ Cont p P ops S fr w0 j oj a' F' (wpAnyC p P ops S fr w0 n L f ((listed.setIfInBounds i true).setIfInBounds j true)) := by
        intro a' F' h
        obtain ⟨_, o, ho, h1, h2⟩ := h.2 j (ready_mono hj hji)
        have : o = oj := Option.some.inj (ho.symm.trans hoj)
        subst this
        exact ⟨h1, h2⟩
      have wj : ∀ u, Region.wanted oj (yielded ops (a.put oi.dst u).tmps) = Region.wanted oj (yielded ops a.tmps) := fun u => wanted_put oj a oi.dst u p1
      have xj : ∀ u, execOp (a.put oi.dst u).eval oj = execOp a.eval oj := fun u => execOp_put oj hsj a oi.dst u p1
      have wi : ∀ u, Region.wanted oi (yielded ops (a.put oj.dst u).tmps) = Region.wanted oi (yielded ops a.tmps) := fun u => wanted_put oi a oj.dst u p3
      have xi : ∀ u, execOp (a.put oj.dst u).eval oi = execOp a.eval oi := fun u => execOp_put oi hsi a oj.dst u p3
      -- operation j yields now, too
      have yj : YC p P ops S fr w0 j oj a F := by
        intro hwj
        cases hw : Region.wanted oi (yielded ops a.tmps) with
        | true =>
          obtain ⟨w, he, hF⟩ := hsat
          obtain ⟨v, w', hx, hrel, hnew⟩ := exists_of_calm (fr := fr) (fj := facts ops F.F i) he (fun k _ => hF.1 k) (hy hw w he (fun k _ => hF.1 k))
          have h1 := (after_i _ _ (H.1 hw v (fun e => Far.of_new hF.2 (hnew e)) ⟨w', p.trans he hx, Gx.Holds.put hst hF hx hrel hnew⟩)).1
          unfold YC Gx.put at h1
          rw [wj, xj, facts_put bji] at h1
          exact h1 hwj
        | false =>
          have h1 := (after_i _ _ (H.2 hw)).1
          unfold YC at h1
          rw [wj, xj] at h1
          exact h1 hwj
      have hfree' : ∀ k ok, ops[k]? = some ok → k ≠ i → (listed.setIfInBounds j true).getD k true = false →
          (∀ e ∈ ok.after, Region.binds .any e = true → e.on ≠ i) → oi.apart ops ok = true := fun k ok hk hki hun' hno => by
        refine hfree k ok hk hki ?_ hno
        by_cases hjk : j = k
        · subst hjk; exact hjun
        · rw [getD_set_ne true hjk] at hun'; exact hun'
      refine ⟨oj, hoj, yj, fun hwj u hfu hsu => ?_, fun hwj => ?_⟩
      · -- operation j is taken, with u
        generalize hFj : F.put fr j (Rel p P w0 (execOp a.eval oj) (facts ops F.F j) (S j) u) u = Fj at *
        have hfi : facts ops Fj.F i = facts ops F.F i := by rw [← hFj]; exact facts_put bij
        have hstj : StableF p Fj := by rw [← hFj]; exact hst.put (rel_stable hS)
        refine ih (listed.setIfInBounds j true) (a.put oj.dst u) Fj (inv.set hj hjn) hfree' (ready_mono hr (Ne.symm hji)) hsu hstj ?_ ⟨fun hwi v hfv hsv => ?_, fun hwi => ?_⟩
        · unfold YC
          rw [wi, xi, hfi]
          exact hy
        · rw [wi] at hwi
          rw [xi, hfi] at hsv ⊢
          obtain ⟨w, he, hw⟩ := hsv
          have hfv1 : fr i = true → Far F.V v := fun e x hx => hfv e x (by rw [← hFj]; exact .inl hx)
          have hwF : ∀ k, F.F k w := fun k => by have := (hw.1 k).1; rw [← hFj] at this; exact this.1
          have hwj' : Rel p P w0 (execOp a.eval oj) (facts ops F.F j) (S j) u w := by have := (hw.1 j).1; rw [← hFj] at this; exact this.2 rfl
          have hwi' : Rel p P w0 (execOp a.eval oi) (facts ops F.F i) (S i) v w := (hw.1 i).2 rfl
          have hin : InW ((F.V.put fr j u).put fr i v) w := by have := hw.2; rw [← hFj] at this; exact this
          have hsi : Sat p w0 (F.put fr i (Rel p P w0 (execOp a.eval oi) (facts ops F.F i) (S i) v) v) := by
            refine ⟨w, he, fun k => ⟨hwF k, fun _ => hwi'⟩, fun x hx => hin x ?_⟩
            rcases hx with hx | hx
            · exact .inl (.inl hx)
            · exact .inr hx
          have h2 := (after_i _ _ (H.1 hwi v hfv1 hsi)).2.1
          have hff : facts ops (F.put fr i (Rel p P w0 (execOp a.eval oi) (facts ops F.F i) (S i) v) v).F j = facts ops F.F j := facts_put bji
          rw [wj, xj, hff] at h2
          have hcomm : ((F.put fr i (Rel p P w0 (execOp a.eval oi) (facts ops F.F i) (S i) v) v).put fr j (Rel p P w0 (execOp a.eval oj) (facts ops F.F j) (S j) u) u) = Fj.put fr i (Rel p P w0 (execOp a.eval oi) (facts ops F.F i) (S i) v) v := by
            rw [Gx.put_comm, hFj]
          have h3 := h2 hwj u (fun e => Far.put (hfu e) (fun ei hev => hfv ei u (by rw [← hFj]; exact .inr ⟨e, rfl⟩) hev.symm)) (by rw [hcomm]; exact ⟨w, he, hw⟩)
          rw [hcomm] at h3
          rw [Array.setIfInBounds_comm _ _ hji, Act.put_comm a u v (fun d hd hd' => p2 d hd' hd)]
          exact h3
        · rw [wi] at hwi
          have h2 := (after_i _ _ (H.2 hwi)).2.1
          rw [wj, xj] at h2
          have h3 := h2 hwj u hfu (by rw [hFj]; exact hsu)
          rw [hFj] at h3
          rw [Array.setIfInBounds_comm _ _ hji, Act.put_comm a u undef (fun d hd hd' => p2 d hd' hd)]
          exact h3
      · refine ih (listed.setIfInBounds j true) (a.put oj.dst undef) F (inv.set hj hjn) hfree' (ready_mono hr (Ne.symm hji)) hsat hst ?_ ⟨fun hwi v hfv hsv => ?_, fun hwi => ?_⟩
        · unfold YC
          rw [wi, xi]
          exact hy
        · rw [wi] at hwi
          rw [xi] at hsv ⊢
          have h2 := (after_i _ _ (H.1 hwi v hfv hsv)).2.2
          rw [wj] at h2
          have h3 := h2 hwj
          rw [Array.setIfInBounds_comm _ _ hji, Act.put_comm a undef v (fun d hd hd' => p2 d hd' hd)]
          exact h3
        · rw [wi] at hwi
          have h2 := (after_i _ _ (H.2 hwi)).2.2
          rw [wj] at h2
          have h3 := h2 hwj
          rw [Array.setIfInBounds_comm _ _ hji, Act.put_comm a undef undef (fun d hd hd' => p2 d hd' hd)]
          exact h3
end

/-! ### The order of the text, and a tail that is forced -/

section
variable {p : Pre} {P : Program} {ops : Array Oper} {S : Spec} {fr : Nat → Bool} {w0 : World}

theorem Cont.sat {K K' : Act → Gx → Prop} {j : Nat} {o : Oper} {a : Act} {F : Gx} (hS : StableS p S) (hst : StableF p F) (h : ∀ a F, Sat p w0 F → StableF p F → K a F → K' a F) (hs : Sat p w0 F) (hc : Cont p P ops S fr w0 j o a F K) : Cont p P ops S fr w0 j o a F K' :=
  ⟨fun hw v hf hv => h _ _ hv (hst.put (rel_stable hS)) (hc.1 hw v hf hv), fun hw => h _ _ hs hst (hc.2 hw)⟩

theorem wpAnyC_lex {n g : Nat} {Lq : Act → Gx → Prop} (hS : StableS p S) (hsel : Region.noSelect ops = true)
    (htail : ∀ listed, HeadInv .any ops n listed → ∀ i, i < n → listed.getD i true = false → ∀ t, n ≤ t → t ∉ Region.ready .any ops listed) :
    ∀ (l : List Oper) (k : Nat) (listed : Array Bool) (a : Act) (F : Gx), (∀ j, j < l.length → l[j]? = ops[k + j]?) → k + l.length = n → HeadInv .any ops n listed →
    Region.lexHead .any ops g l.length k listed = true → Sat p w0 F → StableF p F → wpCalm p P ops S fr w0 Lq l k a F →
    wpAnyC p P ops S fr w0 n (fun listed' a' F' => Region.seqB .any ops g n listed' = true ∧ Lq a' F') l.length listed a F
  | [], k, listed, a, F, _, hk, _, hB, _, _, h => by
    have : k = n := by simpa using hk
    subst this
    exact ⟨by simpa [Region.lexHead] using hB, h⟩
  | o :: l, k, listed, a, F, hl, hk, inv, hB, hs, hst, h => by
    have h0 : ops[k]? = some o := by simpa using (hl 0 (by simp)).symm
    simp only [List.length_cons, Region.lexHead, Bool.and_eq_true] at hB
    obtain ⟨⟨hr, hf⟩, hB'⟩ := hB
    have hkn : k < n := by simp only [List.length_cons] at hk; omega
    have hr' : k ∈ Region.ready .any ops listed := by simpa using hr
    refine wpAnyC_first hS h0 (Region.noSelect_spec hsel) htail hkn (fun listed' a' F' hL => seqB_ready hL.1) l.length listed a F inv (Region.free_spec h0 hf) hr' hs hst h.1 ?_
    exact Cont.sat hS hst (fun a' F' hs' hst' hK => wpAnyC_lex hS hsel htail l (k + 1) _ a' F' (fun j hj => by have := hl (j + 1) (by simp; omega); simpa [Nat.add_assoc, Nat.add_comm 1 j] using this)
      (by simp only [List.length_cons] at hk; omega) (inv.set hr' hkn) hB' hs' hst' hK) hs h.2

theorem wp_region_calm {id : Nat} {Q : Exit → Act → World → Prop} {a : Act} {w : World} {l : List Oper} (n : Nat) (S : Spec) (hS : StableS p S) (hm : P.follows .mixedOrders = true) (hB : calmB l.toArray n = true)
    (h : wpCalm p P l.toArray S fr w (fun a' F => ∀ w', p.R w w' → F.Holds w' → wpList P l.toArray Q (l.drop n) a' w') (l.take n) 0 a ⟨fun _ _ => True, fun _ => False⟩) : (Code.region id l.toArray true).wp P Q a w := by
  simp only [calmB, Bool.and_eq_true, Bool.or_eq_true, decide_eq_true_eq] at hB
  obtain ⟨⟨hsel, hn⟩, hlex⟩ := hB
  have hn' : n ≤ l.length := by
    rcases hn with h1 | h1
    · rw [h1]; simp
    · have := h1.1.1; simp at this; omega
  have htl : (l.take n).length = n := by simp; omega
  have hdl : (l.drop n).length = l.toArray.size - n := by simp
  have htail := calm_tail (ops := l.toArray) (n := n) (by rcases hn with h1 | h1; exact .inl h1; exact .inr ⟨h1.1.1, h1.1.2, h1.2⟩)
  have inv0 : HeadInv .any l.toArray n (Array.replicate l.toArray.size false) :=
    ⟨by simp, fun j oj _ hl => (by rw [getD_replicate_false] at hl; cases hl), fun t _ ht => getD_in (by simpa using ht) (getD_replicate_false _ _)⟩
  have H := wpAnyC_lex (g := l.toArray.size - n) hS hsel htail (l.take n) 0 _ a ⟨fun _ _ => True, fun _ => False⟩ (fun j hj => by
    have hj' : j < n := by rw [htl] at hj; exact hj
    simp [hj']) (by simpa using htl) inv0 (by rw [htl]; exact hlex) ⟨w, p.refl _, fun _ => trivial, fun _ hx => hx.elim⟩ (show StableF p ⟨fun _ _ => True, fun _ => False⟩ from fun _ _ _ _ h => h) h
  refine wp_region_any hm ?_
  have := wpAny_of_headC (P := P) (ops := l.toArray) (S := S) (fr := fr) (w0 := w) (n := n) (Q' := Q) (g := l.toArray.size - n) hS (fun listed a' F w1 he hF hL => by
    have := wpAny_of_seq (md := .any) (Q' := Q) (l.drop n) n listed a' w1 (fun j => by simp [List.getElem?_drop]) (by rw [hdl]; exact hL.1) (hL.2 w1 he hF)
    rwa [hdl] at this) (l.take n).length (Array.replicate l.toArray.size false) a ⟨fun _ _ => True, fun _ => False⟩ { w with drawn := w.drawn + 1 } (p.drawn (p.refl w) _) ⟨fun _ => trivial, fun _ hx => hx.elim⟩ (show StableF p ⟨fun _ _ => True, fun _ => False⟩ from fun _ _ _ _ h => h) H
  rw [htl, show n + (l.toArray.size - n) = l.toArray.size by omega] at this
  exact this

/-! ### Steps -/

/-- More is known. -/
structure Le (F F' : Gx) : Prop where
  ff : ∀ k w, F'.F k w → F.F k w
  vv : ∀ u, F.V u → F'.V u
def MonoQ (Q : Act → Gx → Prop) : Prop := ∀ a F F', Le F F' → Q a F → Q a F'
theorem Le.holds {F F' : Gx} (h : Le F F') {w : World} (hw : F'.Holds w) : F.Holds w := ⟨fun k => h.ff _ _ (hw.1 k), fun u hu => hw.2 u (h.vv u hu)⟩
theorem Le.far {F F' : Gx} (h : Le F F') {v : Value} (hv : Far F'.V v) : Far F.V v := fun u hu => hv u (h.vv u hu)
theorem Le.put_self (F : Gx) (k : Nat) (T : World → Prop) (v : Value) : Le F (F.put fr k T v) := ⟨fun _ _ h => h.1, fun _ h => .inl h⟩

theorem wpCalm_mono {Q : Act → Gx → Prop} (hQ : MonoQ Q) : ∀ (l : List Oper) (k : Nat) (a : Act) (F F' : Gx), Le F F' → wpCalm p P ops S fr w0 Q l k a F → wpCalm p P ops S fr w0 Q l k a F'
  | [], _, a, F, F', h, hh => hQ a F F' h hh
  | o :: l, k, a, F, F', h, ⟨hy, hn⟩ => by
    have hf : ∀ w, facts ops F'.F k w → facts ops F.F k w := fun w hf i hi => h.ff _ _ (hf i hi)
    have hr : ∀ v w, Rel p P w0 (execOp a.eval o) (facts ops F'.F k) (S k) v w → Rel p P w0 (execOp a.eval o) (facts ops F.F k) (S k) v w := fun v w ⟨w1, h1, h2, h3⟩ => ⟨w1, h1, hf _ h2, h3⟩
    have hp : ∀ v, Le (F.put fr k (Rel p P w0 (execOp a.eval o) (facts ops F.F k) (S k) v) v) (F'.put fr k (Rel p P w0 (execOp a.eval o) (facts ops F'.F k) (S k) v) v) :=
      fun v => ⟨fun i w hh => ⟨h.ff _ _ hh.1, fun e => hr _ _ (hh.2 e)⟩, fun u hu => hu.elim (fun x => .inl (h.vv u x)) .inr⟩
    exact ⟨fun hw w he hf' => hy hw w he (hf w hf'), fun hw v hfar ⟨w, he, hs⟩ => wpCalm_mono hQ l (k + 1) _ _ _ (hp v) (hn.1 hw v (fun e => h.far (hfar e)) ⟨w, he, (hp v).holds hs⟩), fun hw => wpCalm_mono hQ l (k + 1) _ _ _ h (hn.2 hw)⟩

theorem calm_mono_final {Q : Act → World → Prop} : MonoQ (fun a F => ∀ w', p.R w0 w' → F.Holds w' → Q a w') := fun _ _ _ h hq w' he hF => hq w' he (h.holds hF)

def quietAll (fr : Nat → Bool) : List Oper → Nat → Bool
  | [], _ => true
  | o :: l, k => quietKind o && !fr k && quietAll fr l (k + 1)

/-- Operations that leave the world alone: by the quiet walk, in the class of all worlds that hold what b holds. -/
theorem calm_chunk {Q : Act → Gx → Prop} (hQ : MonoQ Q) (b : World) (hb : ∀ w, p.R w0 w → Ext b w) : ∀ (l l2 : List Oper) (k : Nat) (a : Act) (F : Gx), quietAll fr l k = true →
    wpQuiet P ops (fun w => ∃ x : Later b, w = x.w) (fun a' => wpCalm p P ops S fr w0 Q l2 (k + l.length) a' F) l a → wpCalm p P ops S fr w0 Q (l ++ l2) k a F := by
  intro l
  induction l with
  | nil => intro l2 k a F _ h; exact h
  | cons o l ih =>
    intro l2 k a F hk h
    simp only [quietAll, Bool.and_eq_true, Bool.not_eq_true'] at hk
    obtain ⟨⟨hk1, hk2⟩, hk3⟩ := hk
    unfold wpQuiet at h
    have hlen : k + (o :: l).length = (k + 1) + l.length := by simp only [List.length_cons]; omega
    rw [hlen] at h
    cases hw : Region.wanted o (yielded ops a.tmps) with
    | true =>
      rw [hw, if_pos rfl] at h
      obtain ⟨v, h1, h2⟩ := h
      refine ⟨fun _ w he _ => ?_, fun _ u _ hu => ?_, fun hf => by rw [hw] at hf; cases hf⟩
      · have h3 := h1 w ⟨⟨w, hb w he⟩, rfl⟩
        have hne := noEnter_of_quietKind (P := P) hk1 a.eval w
        unfold Oper.quietAt at h3
        generalize (execOp a.eval o).run P w = r at *
        cases r with
        | ok n w' =>
          cases n <;> simp only [Oper.quietUpon] at h3 <;> simp only [calmUpon]
          case value x => obtain ⟨e, _⟩ := h3; rw [e]; exact ⟨p.refl _, fun e => by rw [hk2] at e; cases e⟩
          case skip => obtain ⟨e, _⟩ := h3; rw [e]; exact ⟨p.refl _, hk2⟩
          case enter f args => exact hne.elim
        | halt x w' => simp only [Oper.quietUpon] at h3
      · obtain ⟨w, he, hs⟩ := hu
        obtain ⟨w1, he1, _, hg⟩ := (hs.1 k).2 rfl
        have h3 := h1 w1 ⟨⟨w1, hb w1 he1⟩, rfl⟩
        have hne := noEnter_of_quietKind (P := P) hk1 a.eval w1
        have huv : u = v := by
          unfold Oper.quietAt at h3
          generalize (execOp a.eval o).run P w1 = r at *
          cases r with
          | ok n w' =>
            cases n <;> simp only [Oper.quietUpon] at h3 <;> simp only [gives] at hg
            case value x => rw [hg.1, h3.2]
            case skip => rw [hg.1, h3.2]
            case enter f args => exact hne.elim
          | halt x w' => simp only [Oper.quietUpon] at h3
        subst huv
        exact wpCalm_mono hQ _ _ _ F _ (Le.put_self F k _ _) (ih l2 (k + 1) _ F hk3 h2)
    | false =>
      rw [hw] at h
      exact ⟨fun hf => (by rw [hw] at hf; cases hf), fun hf => (by rw [hw] at hf; cases hf), fun _ => ih l2 (k + 1) _ F hk3 h⟩

theorem calm_nil {Q : Act → Gx → Prop} {k : Nat} {a : Act} {F : Gx} (h : Q a F) : wpCalm p P ops S fr w0 Q [] k a F := h

/-- A call of a Go function: its result is any value that S lets by. -/
theorem calm_call {Q : Act → Gx → Prop} {o : Oper} {l : List Oper} {k : Nat} {a : Act} {F : Gx} (hQ : MonoQ Q) (f : FuncId) (args : Array Value) (hw : Region.wanted o (yielded ops a.tmps) = true)
    (hrun : ∀ w, (execOp a.eval o).run P w = .ok (.enter f args) w)
    (hcall : ∀ w, p.R w0 w → facts ops F.F k w → Calls P f args w (fun e w'' => ∃ v, e = .returned v ∧ p.R w w'' ∧ S k args v w'' ∧ (fr k = true → New v w w'')))
    (hn : ∀ v w', p.R w0 w' → S k args v w' → (fr k = true → Far F.V v) → wpCalm p P ops S fr w0 Q l (k + 1) (a.put o.dst v) (F.put fr k (S k args v) v)) : wpCalm p P ops S fr w0 Q (o :: l) k a F := by
  refine ⟨fun _ w he hf => ?_, fun _ v hfar hv => ?_, fun hf => by rw [hw] at hf; cases hf⟩
  · rw [hrun]; exact hcall w he hf
  · have hS : ∀ w', Rel p P w0 (execOp a.eval o) (facts ops F.F k) (S k) v w' → S k args v w' := fun w' ⟨w1, _, _, h⟩ => by rw [hrun] at h; exact h
    obtain ⟨w', he, hs⟩ := hv
    exact wpCalm_mono hQ _ _ _ (F.put fr k (S k args v) v) _ ⟨fun i w h => ⟨h.1, fun e => hS _ (h.2 e)⟩, fun u h => h⟩ (hn v w' he (hS _ ((hs.1 k).2 rfl)) hfar)

/-- An operation that makes a value, and may make memory: T is what is said of it. -/
theorem calm_value {Q : Act → Gx → Prop} {o : Oper} {l : List Oper} {k : Nat} {a : Act} {F : Gx} (hQ : MonoQ Q) (T : Value → World → Prop) (hT : ∀ v w w', p.R w w' → T v w → T v w') (hw : Region.wanted o (yielded ops a.tmps) = true)
    (hrun : ∀ w, p.R w0 w → facts ops F.F k w → ∃ v w', (execOp a.eval o).run P w = .ok (.value v) w' ∧ p.R w w' ∧ T v w' ∧ (fr k = true → New v w w'))
    (hn : ∀ v w', p.R w0 w' → T v w' → (fr k = true → Far F.V v) → wpCalm p P ops S fr w0 Q l (k + 1) (a.put o.dst v) (F.put fr k (T v) v)) : wpCalm p P ops S fr w0 Q (o :: l) k a F := by
  refine ⟨fun _ w he hf => ?_, fun _ v hfar hv => ?_, fun hf => by rw [hw] at hf; cases hf⟩
  · obtain ⟨u, w', hr, hR, _, hnew⟩ := hrun w he hf
    rw [hr]
    exact ⟨hR, hnew⟩
  · have hS : ∀ w', Rel p P w0 (execOp a.eval o) (facts ops F.F k) (S k) v w' → T v w' := fun w' ⟨w1, h1, h2, h⟩ => by
      obtain ⟨u, w2, hr, _, ht, _⟩ := hrun w1 h1 h2
      rw [hr] at h
      obtain ⟨rfl, hx⟩ := h
      exact hT _ _ _ hx ht
    obtain ⟨w', he, hs⟩ := hv
    exact wpCalm_mono hQ _ _ _ (F.put fr k (T v) v) _ ⟨fun i w h => ⟨h.1, fun e => hS _ (h.2 e)⟩, fun u h => h⟩ (hn v w' he (hS _ ((hs.1 k).2 rfl)) hfar)

/-- The chunk, with its number of operations. -/
theorem calm_quiet {Q : Act → Gx → Prop} (hQ : MonoQ Q) (b : World) (hb : ∀ w, p.R w0 w → Ext b w) (m : Nat) {l : List Oper} {k : Nat} {a : Act} {F : Gx} (hk : quietAll fr (l.take m) k = true)
    (h : wpQuiet P ops (fun w => ∃ x : Later b, w = x.w) (fun a' => wpCalm p P ops S fr w0 Q (l.drop m) (k + (l.take m).length) a' F) (l.take m) a) : wpCalm p P ops S fr w0 Q l k a F := by
  rw [← List.take_append_drop m l]
  exact calm_chunk hQ b hb _ _ _ _ _ hk h
end

/-- The growth of worlds that hold all that was there. -/
def extPre : Pre := ⟨Ext, Ext.refl, Ext.trans, fun h n => h.drawn n, fun h => h.le⟩
end Cg
end Go.Proofs.Yteilglljigjefaa

/- A pose in lowest terms, and the next one. -/
namespace Go.Proofs.Yteilglljigjefaa
open Go.RowKit
theorem wrap_small {a b : Int} (h : a = b) (h1 : -1000000000 ≤ b) (h2 : b ≤ 1000000000) : IntKind.i64.wrap a = b := by rw [h, IntKind.wrap_i64]; omega
set_option maxRecDepth 100000 in
set_option maxHeartbeats 4000000 in
theorem lowest_any (p : Ps) (w : World) (hp : PoseOk p 3) : Calls Try.prog 106 #[p.val] w fun e w' => e = .returned (low p).val ∧ Ext w w' := by
  have h1 := psOk hp
  have h2 := psOk hp.low
  have hg := g5_le h1
  have hg0 := g5_pos hp.d0
  have ht := g5_tree p
  obtain ⟨e1, e2, e3, e4, e5⟩ := low_eq p
  have w1 := wrap_small (quo_low hg0 e1) (by have := h2.bp; omega) (by have := h2.bp; omega)
  have w2 := wrap_small (quo_low hg0 e2) (by have := h2.bq; omega) (by have := h2.bq; omega)
  have w3 := wrap_small (quo_low hg0 e3) (by have := h2.bx; omega) (by have := h2.bx; omega)
  have w4 := wrap_small (quo_low hg0 e4) (by have := h2.bz; omega) (by have := h2.bz; omega)
  have w5 := wrap_small (quo_low hg0 e5) (by have := h2.bd; omega) (by have := h2.bd; omega)
  clear e1 e2 e3 e4 e5 h2
  generalize low p = l at *
  generalize g5 p = G at *
  obtain ⟨P, Q, X, Y, D⟩ := p
  obtain ⟨lp, lq, lx, ly, ld⟩ := l
  obtain ⟨b1, b2, b3, b4, b5⟩ := h1
  simp only at *
  have k1 := gcd_bd P Q
  have k2 := gcd_bd X Y
  have k3 := gcd_bd (Int.gcd P Q : Int) (Int.gcd X Y : Int)
  have c1 := fun w' => gcd_any P Q w' (by omega) (by omega)
  have c2 := fun w' => gcd_any X Y w' (by omega) (by omega)
  have c3 := fun w' => gcd_any (Int.gcd P Q : Int) (Int.gcd X Y : Int) w' (by omega) (by omega)
  have c4 := fun w' => gcd_any (Int.gcd (Int.gcd P Q : Int) (Int.gcd X Y : Int) : Int) D w' (by omega) (by omega)
  rw [ht] at c4
  clear ht k1 k2 k3
  have C1 := Lib.hid c1
  have C2 := Lib.hid c2
  have C3 := Lib.hid c3
  have C4 := Lib.hid c4
  clear c1 c2 c3 c4 hp
  generalize Int.gcd (Int.gcd P Q : Int) (Int.gcd X Y : Int) = G3 at *
  generalize Int.gcd P Q = G1 at *
  generalize Int.gcd X Y = G2 at *
  have W1 := Lib.hid w1
  have W2 := Lib.hid w2
  have W3 := Lib.hid w3
  have W4 := Lib.hid w4
  have W5 := Lib.hid w5
  clear w1 w2 w3 w4 w5
  go_enter Try.func106, Try.ntmps106
  go_wp2
  have kb : Blk ((w.alloc (.cells #[vint P, vint Q, vint X, vint Y, vint D] 82)).alloc (.cells #[.int .i64 0, .int .i64 0, .int .i64 0, .int .i64 0, .int .i64 0] 82)) w.heap.size [vint P, vint Q, vint X, vint Y, vint D] := (Blk.new _ _).ext ((Ext.refl _).alloc _)
  have kr : Blk ((w.alloc (.cells #[vint P, vint Q, vint X, vint Y, vint D] 82)).alloc (.cells #[.int .i64 0, .int .i64 0, .int .i64 0, .int .i64 0, .int .i64 0] 82)) (w.heap.size + 1) [.int .i64 0, .int .i64 0, .int .i64 0, .int .i64 0, .int .i64 0] := Blk.new' (cs := #[.int .i64 0, .int .i64 0, .int .i64 0, .int .i64 0, .int .i64 0]) (by simp)
  have hx : Ext w ((w.alloc (.cells #[vint P, vint Q, vint X, vint Y, vint D] 82)).alloc (.cells #[.int .i64 0, .int .i64 0, .int .i64 0, .int .i64 0, .int .i64 0] 82)) := ((Ext.refl _).alloc _).alloc _
  have hs : w.heap.size ≤ w.heap.size + 1 := by omega
  generalize ((w.alloc (.cells #[vint P, vint Q, vint X, vint Y, vint D] 82)).alloc (.cells #[.int .i64 0, .int .i64 0, .int .i64 0, .int .i64 0, .int .i64 0] 82)) = W0 at *
  generalize w.heap.size + 1 = g1 at *
  have Hs := Lib.hid hs
  clear hs
  have q0 := kb.at_ 0 rfl
  have q1 := kb.at_ 1 rfl
  have q2 := kb.at_ 2 rfl
  have q3 := kb.at_ 3 rfl
  have q4 := kb.at_ 4 rfl
  refine wp_region_calm 15 (fun j _ v _ => bif j == 4 then v = .int .i64 G1 else bif j == 9 then v = .int .i64 G2 else bif j == 10 then v = .int .i64 G3 else v = .int .i64 G) (fun _ _ _ _ _ _ h => h) (by kernel_rfl) (by kernel_rfl) ?_
  simp only [List.take_succ_cons, List.take_zero, List.drop_succ_cons, List.drop_zero]
  refine calm_quiet calm_mono_final 4 (by kernel_rfl) ?_
  simp only [List.take_succ_cons, List.take_zero, List.drop_succ_cons, List.drop_zero]
  repeat (go_big_quiet_step (fail))
  refine wpQuiet_nil ?_
  refine calm_call calm_mono_final 85 #[.int .i64 P, .int .i64 Q] rfl (fun w => ?_) (fun w he hF => ?_) ?_
  · go_simp
  · exact (C1.out w).mono fun e w'' ⟨he', hx⟩ => ⟨_, he', hx, rfl⟩
  rintro _ _ _ rfl
  simp only [Act.put, List.setIfInBounds_toArray, List.set_cons_succ, List.set_cons_zero]
  refine calm_quiet calm_mono_final 4 (by kernel_rfl) ?_
  simp only [List.take_succ_cons, List.take_zero, List.drop_succ_cons, List.drop_zero]
  repeat (go_big_quiet_step (fail))
  refine wpQuiet_nil ?_
  refine calm_call calm_mono_final 85 #[.int .i64 X, .int .i64 Y] rfl (fun w => ?_) (fun w he hF => ?_) ?_
  · go_simp
  · exact (C2.out w).mono fun e w'' ⟨he', hx⟩ => ⟨_, he', hx, rfl⟩
  rintro _ _ _ rfl
  simp only [Act.put, List.setIfInBounds_toArray, List.set_cons_succ, List.set_cons_zero]
  refine calm_call calm_mono_final 85 #[.int .i64 G1, .int .i64 G2] rfl (fun w => ?_) (fun w he hF => ?_) ?_
  · go_simp
  · exact (C3.out w).mono fun e w'' ⟨he', hx⟩ => ⟨_, he', hx, rfl⟩
  rintro _ _ _ rfl
  simp only [Act.put, List.setIfInBounds_toArray, List.set_cons_succ, List.set_cons_zero]
  refine calm_quiet calm_mono_final 2 (by kernel_rfl) ?_
  simp only [List.take_succ_cons, List.take_zero, List.drop_succ_cons, List.drop_zero]
  repeat (go_big_quiet_step (fail))
  refine wpQuiet_nil ?_
  refine calm_call calm_mono_final 85 #[.int .i64 G3, .int .i64 D] rfl (fun w => ?_) (fun w he hF => ?_) ?_
  · go_simp
  · exact (C4.out w).mono fun e w'' ⟨he', hx⟩ => ⟨_, he', hx, rfl⟩
  rintro _ _ _ rfl
  simp only [Act.put, List.setIfInBounds_toArray, List.set_cons_succ, List.set_cons_zero]
  refine calm_quiet calm_mono_final 1 (by kernel_rfl) ?_
  simp only [List.take_succ_cons, List.take_zero, List.drop_succ_cons, List.drop_zero]
  repeat (go_big_quiet_step (fail))
  refine wpQuiet_nil ?_
  refine calm_nil fun w6 hx6 _ => ?_
  have q0 : ∀ w', Ext w6 w' → _ := fun w' he => q0 w' (hx6.trans he)
  have q1 : ∀ w', Ext w6 w' → _ := fun w' he => q1 w' (hx6.trans he)
  have q2 : ∀ w', Ext w6 w' → _ := fun w' he => q2 w' (hx6.trans he)
  have q3 : ∀ w', Ext w6 w' → _ := fun w' he => q3 w' (hx6.trans he)
  have q4 : ∀ w', Ext w6 w' → _ := fun w' he => q4 w' (hx6.trans he)
  have kr6 := kr.ext hx6
  have w1 := W1.out
  have w2 := W2.out
  have w3 := W3.out
  have w4 := W4.out
  have w5 := W5.out
  have z1 : ((G : Int) = 0) = False := by simp; omega
  go_wp2
  refine wp_region_calm 20 (fun _ _ _ _ => True) (fun _ _ _ _ _ _ h => h) (by kernel_rfl) (by kernel_rfl) ?_
  simp only [List.take_succ_cons, List.take_zero, List.drop_succ_cons, List.drop_zero]
  refine calm_quiet calm_mono_final 20 (by kernel_rfl) ?_
  simp only [List.take_succ_cons, List.take_zero, List.drop_succ_cons, List.drop_zero]
  repeat (go_big_quiet_step (fail))
  refine wpQuiet_nil ?_
  refine calm_nil fun w7 hx7 _ => ?_
  have kr7 := kr6.ext hx7
  have r0 := kr7.at_ 0 rfl
  have f0 := kr7.free 0
  have r1 := kr7.at_ 1 rfl
  have f1 := kr7.free 1
  have r2 := kr7.at_ 2 rfl
  have f2 := kr7.free 2
  have r3 := kr7.at_ 3 rfl
  have f3 := kr7.free 3
  have r4 := kr7.at_ 4 rfl
  have f4 := kr7.free 4
  clear w1 w2 w3 w4 w5 z1
  go_wp2
  (try simp only [Exit.inBlock, Exit.then])
  have kz := (((((kr7.set (j := 0) (by simp) (.int .i64 lp)).set (j := 1) (by simp) (.int .i64 lq)).set (j := 2) (by simp) (.int .i64 lx)).set (j := 3) (by simp) (.int .i64 ly)).set (j := 4) (by simp) (.int .i64 ld))
  refine bodyPost_ret (results_pose rfl _ _ rfl kz) rfl ⟨rfl, ?_⟩
  exact (((((((hx.trans hx6).trans hx7).setCell Hs.out _).setCell Hs.out _).setCell Hs.out _).setCell Hs.out _).setCell Hs.out _)
end Go.Proofs.Yteilglljigjefaa

/- The pose that follows: by the code. -/
namespace Go.Proofs.Yteilglljigjefaa
open Go.RowKit
theorem ints_five {w : World} {g : Nat} {a b c d e : Int} (hb : Blk w g [vint a, vint b, vint c, vint d, vint e]) : Ints w (some ⟨g, 0, none⟩) [a, b, c, d, e] := fun k hk => by
  refine ⟨_, rfl, ?_⟩
  rw [add_zero']
  rcases (by simp at hk; omega : k = 0 ∨ k = 1 ∨ k = 2 ∨ k = 3 ∨ k = 4) with rfl | rfl | rfl | rfl | rfl
  · exact hb.c 0 _ rfl
  · exact hb.c 1 _ rfl
  · exact hb.c 2 _ rfl
  · exact hb.c 3 _ rfl
  · exact hb.c 4 _ rfl
set_option maxRecDepth 100000 in
set_option maxHeartbeats 8000000 in
theorem follow_core (P Q X Y D ta tb tr ax ay bx bY ang ux uy vx vy lp lq lx ly ld : Int) (G : Nat) (w : World) (hg0 : 0 < G)
    (f1 : -390625 ≤ ta * P ∧ ta * P ≤ 390625) (f2 : -390625 ≤ tb * Q ∧ tb * Q ≤ 390625) (f3 : -390625 ≤ tb * P ∧ tb * P ≤ 390625) (f4 : -390625 ≤ ta * Q ∧ ta * Q ≤ 390625) (f5 : -390625 ≤ tr * D ∧ tr * D ≤ 390625)
    (f6 : -273437500 ≤ tr * ux ∧ tr * ux ≤ 273437500) (f7 : -273437500 ≤ tr * uy ∧ tr * uy ≤ 273437500) (sx : -10937500 ≤ vx ∧ vx ≤ 10937500) (sy : -10937500 ≤ vy ∧ vy ≤ 10937500)
    (Ca : Hid (∀ w' : World, Calls Try.prog 81 #[.agg #[vint P, vint Q, vint X, vint Y, vint D], .agg #[vint ax, vint ay]] w' fun e w'' => e = .returned (.agg #[vint ux, vint uy]) ∧ Ext w' w''))
    (Cb : Hid (∀ w' : World, Calls Try.prog 81 #[.agg #[vint (ta * P - tb * Q), vint (tb * P + ta * Q), vint 0, vint 0, vint (tr * D)], .agg #[vint bx, vint bY]] w' fun e w'' => e = .returned (.agg #[vint vx, vint vy]) ∧ Ext w' w''))
    (Cd : Hid (∀ (w' : World) (g : Nat), Blk w' g [vint (ta * P - tb * Q), vint (tb * P + ta * Q), vint (tr * ux - vx), vint (tr * uy - vy), vint (tr * D)] → Calls Try.prog 82 #[.slice (some ⟨g, 0, none⟩) 5 5] w' fun e w'' => e = .returned (.int .i64 (G : Int)) ∧ Ext w' w''))
    (W1 : Hid (IntKind.i64.wrap ((ta * P - tb * Q).tdiv (G : Int)) = lp)) (W2 : Hid (IntKind.i64.wrap ((tb * P + ta * Q).tdiv (G : Int)) = lq)) (W3 : Hid (IntKind.i64.wrap ((tr * ux - vx).tdiv (G : Int)) = lx)) (W4 : Hid (IntKind.i64.wrap ((tr * uy - vy).tdiv (G : Int)) = ly)) (W5 : Hid (IntKind.i64.wrap ((tr * D).tdiv (G : Int)) = ld)) :
    Calls Try.prog 55 #[.agg #[vint P, vint Q, vint X, vint Y, vint D], .agg #[vint ax, vint ay, vint bx, vint bY, vint ang], .agg #[vint ta, vint tb, vint tr]] w fun e w' => e = .returned (.agg #[vint lp, vint lq, vint lx, vint ly, vint ld]) ∧ Ext w w' := by
  have kp : Blk (((((w.alloc (.cells #[vint P, vint Q, vint X, vint Y, vint D] 82)).alloc (.cells #[vint ax, vint ay, vint bx, vint bY, vint ang] 85)).alloc (.cells #[vint ta, vint tb, vint tr] 98)).alloc (.cells #[vint 0, vint 0, vint 0, vint 0, vint 0] 82)).alloc (.cells #[vint (ta * P - tb * Q), vint (tb * P + ta * Q), vint 0, vint 0, vint (tr * D)] 82)) (w.heap.size) [vint P, vint Q, vint X, vint Y, vint D] := ((((Blk.new _ _).ext ((Ext.refl _).alloc _)).ext ((Ext.refl _).alloc _)).ext ((Ext.refl _).alloc _)).ext ((Ext.refl _).alloc _)
  have kh : Blk (((((w.alloc (.cells #[vint P, vint Q, vint X, vint Y, vint D] 82)).alloc (.cells #[vint ax, vint ay, vint bx, vint bY, vint ang] 85)).alloc (.cells #[vint ta, vint tb, vint tr] 98)).alloc (.cells #[vint 0, vint 0, vint 0, vint 0, vint 0] 82)).alloc (.cells #[vint (ta * P - tb * Q), vint (tb * P + ta * Q), vint 0, vint 0, vint (tr * D)] 82)) (w.heap.size + 1) [vint ax, vint ay, vint bx, vint bY, vint ang] := (((Blk.new' (cs := #[vint ax, vint ay, vint bx, vint bY, vint ang]) (by simp)).ext ((Ext.refl _).alloc _)).ext ((Ext.refl _).alloc _)).ext ((Ext.refl _).alloc _)
  have kt : Blk (((((w.alloc (.cells #[vint P, vint Q, vint X, vint Y, vint D] 82)).alloc (.cells #[vint ax, vint ay, vint bx, vint bY, vint ang] 85)).alloc (.cells #[vint ta, vint tb, vint tr] 98)).alloc (.cells #[vint 0, vint 0, vint 0, vint 0, vint 0] 82)).alloc (.cells #[vint (ta * P - tb * Q), vint (tb * P + ta * Q), vint 0, vint 0, vint (tr * D)] 82)) (w.heap.size + 1 + 1) [vint ta, vint tb, vint tr] := ((Blk.new' (cs := #[vint ta, vint tb, vint tr]) (by simp)).ext ((Ext.refl _).alloc _)).ext ((Ext.refl _).alloc _)
  have kr : Blk (((((w.alloc (.cells #[vint P, vint Q, vint X, vint Y, vint D] 82)).alloc (.cells #[vint ax, vint ay, vint bx, vint bY, vint ang] 85)).alloc (.cells #[vint ta, vint tb, vint tr] 98)).alloc (.cells #[vint 0, vint 0, vint 0, vint 0, vint 0] 82)).alloc (.cells #[vint (ta * P - tb * Q), vint (tb * P + ta * Q), vint 0, vint 0, vint (tr * D)] 82)) (w.heap.size + 1 + 1 + 1) [vint 0, vint 0, vint 0, vint 0, vint 0] := (Blk.new' (cs := #[vint 0, vint 0, vint 0, vint 0, vint 0]) (by simp)).ext ((Ext.refl _).alloc _)
  have ko : Blk (((((w.alloc (.cells #[vint P, vint Q, vint X, vint Y, vint D] 82)).alloc (.cells #[vint ax, vint ay, vint bx, vint bY, vint ang] 85)).alloc (.cells #[vint ta, vint tb, vint tr] 98)).alloc (.cells #[vint 0, vint 0, vint 0, vint 0, vint 0] 82)).alloc (.cells #[vint (ta * P - tb * Q), vint (tb * P + ta * Q), vint 0, vint 0, vint (tr * D)] 82)) (w.heap.size + 1 + 1 + 1 + 1) [vint (ta * P - tb * Q), vint (tb * P + ta * Q), vint 0, vint 0, vint (tr * D)] := Blk.new' (cs := #[vint (ta * P - tb * Q), vint (tb * P + ta * Q), vint 0, vint 0, vint (tr * D)]) (by simp)
  have hx : Ext w (((((w.alloc (.cells #[vint P, vint Q, vint X, vint Y, vint D] 82)).alloc (.cells #[vint ax, vint ay, vint bx, vint bY, vint ang] 85)).alloc (.cells #[vint ta, vint tb, vint tr] 98)).alloc (.cells #[vint 0, vint 0, vint 0, vint 0, vint 0] 82)).alloc (.cells #[vint (ta * P - tb * Q), vint (tb * P + ta * Q), vint 0, vint 0, vint (tr * D)] 82)) := (((((Ext.refl _).alloc _).alloc _).alloc _).alloc _).alloc _
  go_enter Try.func55, Try.ntmps55
  go_wp2
  generalize (((((w.alloc (.cells #[vint P, vint Q, vint X, vint Y, vint D] 82)).alloc (.cells #[vint ax, vint ay, vint bx, vint bY, vint ang] 85)).alloc (.cells #[vint ta, vint tb, vint tr] 98)).alloc (.cells #[vint 0, vint 0, vint 0, vint 0, vint 0] 82)).alloc (.cells #[vint (ta * P - tb * Q), vint (tb * P + ta * Q), vint 0, vint 0, vint (tr * D)] 82)) = W0 at kp kh kt kr ko hx ⊢
  have p0 := kp.at_ 0 rfl
  have p1 := kp.at_ 1 rfl
  have p2 := kp.at_ 2 rfl
  have p3 := kp.at_ 3 rfl
  have p4 := kp.at_ 4 rfl
  have h0 := kh.at_ 0 rfl
  have h1 := kh.at_ 1 rfl
  have h2 := kh.at_ 2 rfl
  have h3 := kh.at_ 3 rfl
  have o0 := ko.at_ 0 rfl
  have o1 := ko.at_ 1 rfl
  have o2 := ko.at_ 2 rfl
  have o3 := ko.at_ 3 rfl
  have o4 := ko.at_ 4 rfl
  have hlo := ko.lt
  have Kp := Lib.hid kp
  have Kt := Lib.hid kt
  have Kr := Lib.hid kr
  have Ko := Lib.hid ko
  have Hx := Lib.hid hx
  clear kp kh kt kr ko hx f1 f2 f3 f4 f5
  refine Cg.wp_region_calm (p := Cg.extPre) (fr := (fun j => j == 8 || j == 9)) 10 (fun j _ v _ => bif j == 3 then v = .agg #[vint ux, vint uy] else v = .agg #[vint vx, vint vy]) (fun _ _ _ _ _ _ h => h) (by kernel_rfl) (by kernel_rfl) ?_
  simp only [List.take_succ_cons, List.take_zero, List.drop_succ_cons, List.drop_zero]
  refine Cg.calm_quiet Cg.calm_mono_final W0 (fun _ h => h) 3 (by kernel_rfl) ?_
  simp only [List.take_succ_cons, List.take_zero, List.drop_succ_cons, List.drop_zero]
  repeat (go_big_quiet_step (fail))
  refine wpQuiet_nil ?_
  refine Cg.calm_call Cg.calm_mono_final 81 #[.agg #[vint P, vint Q, vint X, vint Y, vint D], .agg #[vint ax, vint ay]] rfl (fun w => ?_) (fun w he hF => ?_) ?_
  · go_simp
  · exact (Ca.out w).mono fun e w'' ⟨he', hx⟩ => ⟨_, he', hx, rfl, fun h => by cases h⟩
  rintro _ _ _ rfl _
  simp only [Act.put, List.setIfInBounds_toArray, List.set_cons_succ, List.set_cons_zero]
  refine Cg.calm_quiet Cg.calm_mono_final W0 (fun _ h => h) 3 (by kernel_rfl) ?_
  simp only [List.take_succ_cons, List.take_zero, List.drop_succ_cons, List.drop_zero]
  repeat (go_big_quiet_step (fail))
  refine wpQuiet_nil ?_
  refine Cg.calm_call Cg.calm_mono_final 81 #[.agg #[vint (ta * P - tb * Q), vint (tb * P + ta * Q), vint 0, vint 0, vint (tr * D)], .agg #[vint bx, vint bY]] rfl (fun w => ?_) (fun w he hF => ?_) ?_
  · go_simp
  · exact (Cb.out w).mono fun e w'' ⟨he', hx⟩ => ⟨_, he', hx, rfl, fun h => by cases h⟩
  rintro _ _ _ rfl _
  simp only [Act.put, List.setIfInBounds_toArray, List.set_cons_succ, List.set_cons_zero]
  refine Cg.calm_value Cg.calm_mono_final (fun v w => ∃ b, v = .pointer (some ⟨b, 0, none⟩) ∧ Blk w b [vint 0, vint 0] ∧ W0.heap.size ≤ b) (fun _ w' w'' hR ⟨b, e, hh, hb⟩ => ⟨b, e, hh.ext (show Ext w' w'' from hR), hb⟩) rfl (fun w' hR _ => ⟨.pointer (some ⟨w'.heap.size, 0, none⟩), w'.alloc (.cells [vint 0, vint 0].toArray 27), by go_simp, (Ext.refl _).alloc _, ⟨_, rfl, Blk.new _ _, (show Ext W0 w' from hR).le⟩, fun _ => ⟨w'.heap.size, rfl, Nat.le_refl _, by simp⟩⟩) ?_
  rintro _ b8w b8he ⟨b8, rfl, b8h, b8b⟩ b8f
  simp only [Act.put, List.setIfInBounds_toArray, List.set_cons_succ, List.set_cons_zero]
  refine Cg.calm_value Cg.calm_mono_final (fun v w => ∃ b, v = .pointer (some ⟨b, 0, none⟩) ∧ Blk w b [vint 0, vint 0] ∧ W0.heap.size ≤ b) (fun _ w' w'' hR ⟨b, e, hh, hb⟩ => ⟨b, e, hh.ext (show Ext w' w'' from hR), hb⟩) rfl (fun w' hR _ => ⟨.pointer (some ⟨w'.heap.size, 0, none⟩), w'.alloc (.cells [vint 0, vint 0].toArray 27), by go_simp, (Ext.refl _).alloc _, ⟨_, rfl, Blk.new _ _, (show Ext W0 w' from hR).le⟩, fun _ => ⟨w'.heap.size, rfl, Nat.le_refl _, by simp⟩⟩) ?_
  rintro _ b9w b9he ⟨b9, rfl, b9h, b9b⟩ b9f
  simp only [Act.put, List.setIfInBounds_toArray, List.set_cons_succ, List.set_cons_zero]
  refine Cg.calm_nil fun w3 he3 hF => ?_
  have hne : b8 ≠ b9 := by have := b9f rfl (.pointer (some ⟨b8, 0, none⟩)) (.inr ⟨rfl, rfl⟩); simpa [pbV] using this
  have hne' : b9 ≠ b8 := fun e => hne e.symm
  obtain ⟨_, ee, k9, _⟩ := (hF.1 9).2 rfl
  cases ee
  obtain ⟨_, ee, k8, _⟩ := (hF.1 8).1.2 rfl
  cases ee
  have he3 : Ext W0 w3 := he3
  have l8 : w.heap.size + 1 + 1 + 1 + 1 < b8 := Nat.lt_of_lt_of_le hlo b8b
  have l9 : w.heap.size + 1 + 1 + 1 + 1 < b9 := Nat.lt_of_lt_of_le hlo b9b
  have Kr3 := Lib.hid (Kr.out.ext he3)
  have Kt3 := Lib.hid (Kt.out.ext he3)
  have Ko3 := Lib.hid (Ko.out.ext he3)
  have Hx3 := Lib.hid (Hx.out.trans he3)
  clear hF b8f b9f b8h b9h b8he b9he p0 p1 p2 p3 p4 h0 h1 h2 h3 o0 o1 o2 o3 o4 Kp Kt Kr Ko Hx he3 b8b b9b b8w b9w hlo Ca Cb
  have c80 := k8.c 0 _ rfl
  have c81 := k8.c 1 _ rfl
  have d8 := k8.f
  have c90 := k9.c 0 _ rfl
  have c91 := k9.c 1 _ rfl
  have d9 := k9.f
  have K8 := Lib.hid k8
  have K9 := Lib.hid k9
  have Hl := Lib.hid (And.intro l8 l9)
  clear k8 k9 l8 l9
  go_wp2
  have kt4 := (((Kt3.out.other (b := b8) (k := 0) (by have := Hl.out; omega) (vint ux)).other (b := b8) (k := 1) (by have := Hl.out; omega) (vint uy)).other (b := b9) (k := 0) (by have := Hl.out; omega) (vint vx)).other (b := b9) (k := 1) (by have := Hl.out; omega) (vint vy)
  have kr4 := (((Kr3.out.other (b := b8) (k := 0) (by have := Hl.out; omega) (vint ux)).other (b := b8) (k := 1) (by have := Hl.out; omega) (vint uy)).other (b := b9) (k := 0) (by have := Hl.out; omega) (vint vx)).other (b := b9) (k := 1) (by have := Hl.out; omega) (vint vy)
  have ko4 := (((Ko3.out.other (b := b8) (k := 0) (by have := Hl.out; omega) (vint ux)).other (b := b8) (k := 1) (by have := Hl.out; omega) (vint uy)).other (b := b9) (k := 0) (by have := Hl.out; omega) (vint vx)).other (b := b9) (k := 1) (by have := Hl.out; omega) (vint vy)
  have k84 := (((K8.out.set (j := 0) (by simp) (vint ux)).set (j := 1) (by simp) (vint uy)).other (b := b9) (k := 0) hne' (vint vx)).other (b := b9) (k := 1) hne' (vint vy)
  have k94 := (((K9.out.other (b := b8) (k := 0) hne (vint ux)).other (b := b8) (k := 1) hne (vint uy)).set (j := 0) (by simp) (vint vx)).set (j := 1) (by simp) (vint vy)
  have hx4 := (((Hx3.out.setCell (p := ⟨b8, 0, none⟩) (by have := Hl.out; simp only; omega) (vint ux)).setCell (p := ⟨b8, 1, none⟩) (by have := Hl.out; simp only; omega) (vint uy)).setCell (p := ⟨b9, 0, none⟩) (by have := Hl.out; simp only; omega) (vint vx)).setCell (p := ⟨b9, 1, none⟩) (by have := Hl.out; simp only; omega) (vint vy)
  simp only [List.set_cons_zero, List.set_cons_succ] at k84 k94
  generalize (((w3.setCell ⟨b8, 0, none⟩ (vint ux)).setCell ⟨b8, 1, none⟩ (vint uy)).setCell ⟨b9, 0, none⟩ (vint vx)).setCell ⟨b9, 1, none⟩ (vint vy) = w4 at kt4 kr4 ko4 k84 k94 hx4 ⊢
  clear c80 c81 c90 c91 d8 d9 K8 K9 Kt3 Kr3 Ko3 Hx3
  have c80 := k84.c 0 _ rfl
  have c90 := k94.c 0 _ rfl
  have c81 := k84.c 1 _ rfl
  have c91 := k94.c 1 _ rfl
  have t2c := kt4.c 2 _ rfl
  have o2 := ko4.c 2 _ rfl
  have o3 := ko4.c 3 _ rfl
  have fo := ko4.f
  have m2 : w.heap.size + 1 + 1 + 1 + 1 ≠ b8 := (by have := Hl.out; omega)
  have m3 : w.heap.size + 1 + 1 + 1 + 1 ≠ b9 := (by have := Hl.out; omega)
  have Kr4 := Lib.hid kr4
  have Ko4 := Lib.hid ko4
  have Hx4 := Lib.hid hx4
  clear kt4 kr4 ko4 k84 k94 hx4 hne hne'
  go_region
  have kr5 := (((Kr4.out.other (b := w.heap.size + 1 + 1 + 1 + 1) (k := 2) (by omega) (vint (tr * ux - vx))).other (b := w.heap.size + 1 + 1 + 1 + 1) (k := 3) (by omega) (vint (tr * uy - vy))).ext (Ext.refl _).drew)
  have ko5 := (((Ko4.out.set (j := 2) (by simp) (vint (tr * ux - vx))).set (j := 3) (by simp) (vint (tr * uy - vy))).ext (Ext.refl _).drew)
  have hx5 := ((Hx4.out.setCell (p := ⟨w.heap.size + 1 + 1 + 1 + 1, 2, none⟩) (by simp only; omega) (vint (tr * ux - vx))).setCell (p := ⟨w.heap.size + 1 + 1 + 1 + 1, 3, none⟩) (by simp only; omega) (vint (tr * uy - vy))).drew
  simp only [List.set_cons_zero, List.set_cons_succ] at ko5
  generalize ((w4.setCell ⟨w.heap.size + 1 + 1 + 1 + 1, 2, none⟩ (.int .i64 (tr * ux - vx))).setCell ⟨w.heap.size + 1 + 1 + 1 + 1, 3, none⟩ (.int .i64 (tr * uy - vy))).drew = w5 at kr5 ko5 hx5 ⊢
  clear c80 c81 c90 c91 t2c o2 o3 fo m2 m3 Kr4 Ko4 Hx4 f6 f7 sx sy Hl
  have o0 := ko5.at_ 0 rfl
  have o1 := ko5.at_ 1 rfl
  have o2 := ko5.at_ 2 rfl
  have o3 := ko5.at_ 3 rfl
  have o4 := ko5.at_ 4 rfl
  have Kr5 := Lib.hid kr5
  have Hx5 := Lib.hid hx5
  clear kr5 ko5 hx5
  go_wp2_with (go_at_call 82; refine (Cd.out _ _ (Blk.new (W := w5) #[vint (ta * P - tb * Q), vint (tb * P + ta * Q), vint (tr * ux - vx), vint (tr * uy - vy), vint (tr * D)] 3)).mono ?_; rintro e w6 ⟨rfl, hx6⟩)
  have hx56 : Ext w5 w6 := Ext.trans ((Ext.refl _).alloc _) hx6
  have q0 : ∀ w', Ext w6 w' → _ := fun w' he => o0 w' (hx56.trans he)
  have q1 : ∀ w', Ext w6 w' → _ := fun w' he => o1 w' (hx56.trans he)
  have q2 : ∀ w', Ext w6 w' → _ := fun w' he => o2 w' (hx56.trans he)
  have q3 : ∀ w', Ext w6 w' → _ := fun w' he => o3 w' (hx56.trans he)
  have q4 : ∀ w', Ext w6 w' → _ := fun w' he => o4 w' (hx56.trans he)
  have Kr6 := Lib.hid (Kr5.out.ext hx56)
  have Hx6 := Lib.hid (Hx5.out.trans hx56)
  clear Cd hx6 Kr5 Hx5 hx56 o0 o1 o2 o3 o4
  have v1e := W1.out
  have v2e := W2.out
  have v3e := W3.out
  have v4e := W4.out
  have v5e := W5.out
  have z1 : ((G : Int) = 0) = False := by simp; omega
  refine wp_region_calm 20 (fun _ _ _ _ => True) (fun _ _ _ _ _ _ h => h) (by kernel_rfl) (by kernel_rfl) ?_
  simp only [List.take_succ_cons, List.take_zero, List.drop_succ_cons, List.drop_zero]
  refine calm_quiet calm_mono_final 20 (by kernel_rfl) ?_
  simp only [List.take_succ_cons, List.take_zero, List.drop_succ_cons, List.drop_zero]
  repeat (go_big_quiet_step (fail))
  refine wpQuiet_nil ?_
  refine calm_nil fun w7 hx7 _ => ?_
  have kr7 := Kr6.out.ext hx7
  have r0c := kr7.at_ 0 rfl
  have g0f := kr7.free 0
  have r1c := kr7.at_ 1 rfl
  have g1f := kr7.free 1
  have r2c := kr7.at_ 2 rfl
  have g2f := kr7.free 2
  have r3c := kr7.at_ 3 rfl
  have g3f := kr7.free 3
  have r4c := kr7.at_ 4 rfl
  have g4f := kr7.free 4
  clear v1e v2e v3e v4e v5e z1 q0 q1 q2 q3 q4
  go_wp2
  (try simp only [Exit.inBlock, Exit.then])
  have kz := (((((kr7.set (j := 0) (by simp) (.int .i64 lp)).set (j := 1) (by simp) (.int .i64 lq)).set (j := 2) (by simp) (.int .i64 lx)).set (j := 3) (by simp) (.int .i64 ly)).set (j := 4) (by simp) (.int .i64 ld))
  refine bodyPost_ret (results_pose rfl _ _ rfl kz) rfl ⟨rfl, ?_⟩
  exact ((((((Hx6.out.trans hx7).setCell (by simp only; omega) _).setCell (by simp only; omega) _).setCell (by simp only; omega) _).setCell (by simp only; omega) _).setCell (by simp only; omega) _)
theorem follow_any (p : Ps) (h : Hg) (n k : Nat) (w : World) (hp : PoseOk p k) (hk : k ≤ 2) (hh : hingeB h) (hn : n < 36) :
    Calls Try.prog 55 #[p.val, h.val, tval (trn n)] w fun e w' => e = .returned (flw p h (trn n)).val ∧ Ext w w' := by
  have hr := pose_mono (raw_ok hp hh hn) (m := 3) (by omega)
  have ho := psOk (pose_mono (trn_ok hp hn) (m := 3) (by omega))
  have hp3 := psOk (pose_mono hp (m := 3) (by omega))
  have hrs := psOk hr
  have hls := psOk hr.low
  have hg0 := g5_pos hr.d0
  have ca := fun w' => place_any p h.a w' hp3 hh.1
  have cb := fun w' => place_any (trnP p (trn n)) h.b w' ho hh.2.1
  have sa := plc_small (pose_mono hp (m := 3) (by omega)) hh.1
  have sb := plc_small (pose_mono (trn_ok hp hn) (m := 3) (by omega)) hh.2.1
  have cd := fun (w' : World) (g : Nat) (hb : Blk w' g [vint (raw p h (trn n)).p, vint (raw p h (trn n)).q, vint (raw p h (trn n)).x, vint (raw p h (trn n)).y, vint (raw p h (trn n)).d]) => divisor_any (some ⟨g, 0, none⟩) 5 [(raw p h (trn n)).p, (raw p h (trn n)).q, (raw p h (trn n)).x, (raw p h (trn n)).y, (raw p h (trn n)).d] w' (ints_five hb) (by simp) (fun k hk => by
    have b1 := hrs.bp
    have b2 := hrs.bq
    have b3 := hrs.bx
    have b4 := hrs.bz
    have b5 := hrs.bd
    rcases (by simp at hk; omega : k = 0 ∨ k = 1 ∨ k = 2 ∨ k = 3 ∨ k = 4) with rfl | rfl | rfl | rfl | rfl <;> simp only [getI, List.getElem?_cons_zero, List.getElem?_cons_succ, Option.getD_some] <;> omega)
  rw [gN_five] at cd
  obtain ⟨e1, e2, e3, e4, e5⟩ := low_eq (raw p h (trn n))
  have w1 := wrap_small (quo_low hg0 e1) (by have := hls.bp; omega) (by have := hls.bp; omega)
  have w2 := wrap_small (quo_low hg0 e2) (by have := hls.bq; omega) (by have := hls.bq; omega)
  have w3 := wrap_small (quo_low hg0 e3) (by have := hls.bx; omega) (by have := hls.bx; omega)
  have w4 := wrap_small (quo_low hg0 e4) (by have := hls.bz; omega) (by have := hls.bz; omega)
  have w5 := wrap_small (quo_low hg0 e5) (by have := hls.bd; omega) (by have := hls.bd; omega)
  obtain ⟨t1, t2, t3⟩ := trn_small n hn
  have f1 := prod_le t1.1 t1.2 hp3.bp.1 hp3.bp.2
  have f2 := prod_le t2.1 t2.2 hp3.bq.1 hp3.bq.2
  have f3 := prod_le t2.1 t2.2 hp3.bp.1 hp3.bp.2
  have f4 := prod_le t1.1 t1.2 hp3.bq.1 hp3.bq.2
  have f5 := prod_le (a := (trn n).2.2) (d := 25) (s := p.d) (m := 15625) (by omega) (by omega) (by have := hp3.bd; omega) hp3.bd.2
  have f6 := prod_le (a := (trn n).2.2) (d := 25) (s := (plc p h.a).x) (m := 10937500) (by omega) (by omega) sa.1.1 sa.1.2
  have f7 := prod_le (a := (trn n).2.2) (d := 25) (s := (plc p h.a).y) (m := 10937500) (by omega) (by omega) sa.2.1 sa.2.2
  exact follow_core p.p p.q p.x p.y p.d (trn n).1 (trn n).2.1 (trn n).2.2 h.a.x h.a.y h.b.x h.b.y h.ang (plc p h.a).x (plc p h.a).y (plc (trnP p (trn n)) h.b).x (plc (trnP p (trn n)) h.b).y _ _ _ _ _ (g5 (raw p h (trn n))) w (by omega) f1 f2 f3 f4 f5 f6 f7 sb.1 sb.2 ca cb cd w1 w2 w3 w4 w5
end Go.Proofs.Yteilglljigjefaa

/- The pose that follows: by the reference. -/
namespace Go.Proofs.Yteilglljigjefaa
open Go.RowKit
set_option maxRecDepth 100000 in
set_option maxHeartbeats 8000000 in
theorem next_core (P Q X Y D ta tb tr ax ay bx bY ang ux uy vx vy lp lq lx ly ld : Int) (w : World)
    (f1 : -390625 ≤ ta * P ∧ ta * P ≤ 390625) (f2 : -390625 ≤ tb * Q ∧ tb * Q ≤ 390625) (f3 : -390625 ≤ tb * P ∧ tb * P ≤ 390625) (f4 : -390625 ≤ ta * Q ∧ ta * Q ≤ 390625) (f5 : -390625 ≤ tr * D ∧ tr * D ≤ 390625)
    (f6 : -273437500 ≤ ux * tr ∧ ux * tr ≤ 273437500) (f7 : -273437500 ≤ uy * tr ∧ uy * tr ≤ 273437500) (sx : -10937500 ≤ vx ∧ vx ≤ 10937500) (sy : -10937500 ≤ vy ∧ vy ≤ 10937500)
    (Ct : Hid (∀ w' : World, Calls Try.prog 105 #[vint ang] w' fun e w'' => e = .returned (.agg #[vint ta, vint tb, vint tr]) ∧ Ext w' w''))
    (Ca : Hid (∀ w' : World, Calls Try.prog 47 #[.agg #[vint P, vint Q, vint X, vint Y, vint D], .agg #[vint ax, vint ay]] w' fun e w'' => e = .returned (.agg #[vint ux, vint uy]) ∧ Ext w' w''))
    (Cb : Hid (∀ w' : World, Calls Try.prog 47 #[.agg #[vint (ta * P - tb * Q), vint (tb * P + ta * Q), vint 0, vint 0, vint (tr * D)], .agg #[vint bx, vint bY]] w' fun e w'' => e = .returned (.agg #[vint vx, vint vy]) ∧ Ext w' w''))
    (Cl : Hid (∀ w' : World, Calls Try.prog 106 #[.agg #[vint (ta * P - tb * Q), vint (tb * P + ta * Q), vint (ux * tr - vx), vint (uy * tr - vy), vint (tr * D)]] w' fun e w'' => e = .returned (.agg #[vint lp, vint lq, vint lx, vint ly, vint ld]) ∧ Ext w' w'')) :
    Calls Try.prog 84 #[.agg #[vint P, vint Q, vint X, vint Y, vint D], .agg #[vint ax, vint ay, vint bx, vint bY, vint ang]] w fun e w' => e = .returned (.agg #[vint lp, vint lq, vint lx, vint ly, vint ld]) ∧ Ext w w' := by
  have kp : Blk (((w.alloc (.cells #[vint P, vint Q, vint X, vint Y, vint D] 82)).alloc (.cells #[vint ax, vint ay, vint bx, vint bY, vint ang] 85)).alloc (.cells #[vint 0, vint 0, vint 0, vint 0, vint 0] 82)) w.heap.size [vint P, vint Q, vint X, vint Y, vint D] := (((Blk.new _ _).ext ((Ext.refl _).alloc _)).ext ((Ext.refl _).alloc _))
  have kh : Blk (((w.alloc (.cells #[vint P, vint Q, vint X, vint Y, vint D] 82)).alloc (.cells #[vint ax, vint ay, vint bx, vint bY, vint ang] 85)).alloc (.cells #[vint 0, vint 0, vint 0, vint 0, vint 0] 82)) (w.heap.size + 1) [vint ax, vint ay, vint bx, vint bY, vint ang] := ((Blk.new' (cs := #[vint ax, vint ay, vint bx, vint bY, vint ang]) (by simp)).ext ((Ext.refl _).alloc _))
  have kr : Blk (((w.alloc (.cells #[vint P, vint Q, vint X, vint Y, vint D] 82)).alloc (.cells #[vint ax, vint ay, vint bx, vint bY, vint ang] 85)).alloc (.cells #[vint 0, vint 0, vint 0, vint 0, vint 0] 82)) (w.heap.size + 1 + 1) [vint 0, vint 0, vint 0, vint 0, vint 0] := (Blk.new' (cs := #[vint 0, vint 0, vint 0, vint 0, vint 0]) (by simp))
  have hx : Ext w (((w.alloc (.cells #[vint P, vint Q, vint X, vint Y, vint D] 82)).alloc (.cells #[vint ax, vint ay, vint bx, vint bY, vint ang] 85)).alloc (.cells #[vint 0, vint 0, vint 0, vint 0, vint 0] 82)) := (((Ext.refl _).alloc _).alloc _).alloc _
  have Kp := Lib.hid kp
  have Kh := Lib.hid kh
  have Kr := Lib.hid kr
  have Hx := Lib.hid hx
  clear kp kh kr hx
  go_enter Try.func84, Try.ntmps84
  go_wp2_with (first
    | (go_at_call 105; ((with_reducible refine (Ct.out _).mono ?_); rintro e w1 ⟨rfl, hx1⟩); have p0 := (Kp.out.ext hx1).at_ 0 rfl; have p1 := (Kp.out.ext hx1).at_ 1 rfl; have p2 := (Kp.out.ext hx1).at_ 2 rfl; have p3 := (Kp.out.ext hx1).at_ 3 rfl; have p4 := (Kp.out.ext hx1).at_ 4 rfl; have h0 := (Kh.out.ext hx1).at_ 0 rfl; have h1 := (Kh.out.ext hx1).at_ 1 rfl; have h2 := (Kh.out.ext hx1).at_ 2 rfl; have h3 := (Kh.out.ext hx1).at_ 3 rfl; have p0 : ∀ w', Ext (w1.alloc (.cells #[vint ta, vint tb, vint tr] 92)) w' → _ := fun w' he => p0 w' (((Ext.refl _).alloc _).trans he); have p1 : ∀ w', Ext (w1.alloc (.cells #[vint ta, vint tb, vint tr] 92)) w' → _ := fun w' he => p1 w' (((Ext.refl _).alloc _).trans he); have p2 : ∀ w', Ext (w1.alloc (.cells #[vint ta, vint tb, vint tr] 92)) w' → _ := fun w' he => p2 w' (((Ext.refl _).alloc _).trans he); have p3 : ∀ w', Ext (w1.alloc (.cells #[vint ta, vint tb, vint tr] 92)) w' → _ := fun w' he => p3 w' (((Ext.refl _).alloc _).trans he); have p4 : ∀ w', Ext (w1.alloc (.cells #[vint ta, vint tb, vint tr] 92)) w' → _ := fun w' he => p4 w' (((Ext.refl _).alloc _).trans he); have h0 : ∀ w', Ext (w1.alloc (.cells #[vint ta, vint tb, vint tr] 92)) w' → _ := fun w' he => h0 w' (((Ext.refl _).alloc _).trans he); have h1 : ∀ w', Ext (w1.alloc (.cells #[vint ta, vint tb, vint tr] 92)) w' → _ := fun w' he => h1 w' (((Ext.refl _).alloc _).trans he); have h2 : ∀ w', Ext (w1.alloc (.cells #[vint ta, vint tb, vint tr] 92)) w' → _ := fun w' he => h2 w' (((Ext.refl _).alloc _).trans he); have h3 : ∀ w', Ext (w1.alloc (.cells #[vint ta, vint tb, vint tr] 92)) w' → _ := fun w' he => h3 w' (((Ext.refl _).alloc _).trans he); have Kr1 := Lib.hid (Kr.out.ext hx1); have Hx1 := Lib.hid (Hx.out.trans hx1); clear hx1)
    | (go_at_call 47; ((with_reducible refine (Ca.out _).mono ?_); rintro e w2 ⟨rfl, hx2⟩); have hx12 : Ext w1 w2 := (((Ext.refl _).alloc _).alloc _).trans hx2; have hxt : Ext (w1.alloc (.cells #[vint ta, vint tb, vint tr] 92)) w2 := ((Ext.refl _).alloc _).trans hx2; have kt2 := ((Blk.new' (W := w1) (n := w1.heap.size) (cs := #[vint ta, vint tb, vint tr]) (t := 92) rfl).ext ((Ext.refl _).alloc (.cells #[vint (ta * P - tb * Q), vint (tb * P + ta * Q), vint 0, vint 0, vint (tr * D)] 82))).ext hx2; have ko2 := (Blk.new' (W := w1.alloc (.cells #[vint ta, vint tb, vint tr] 92)) (n := w1.heap.size + 1) (cs := #[vint (ta * P - tb * Q), vint (tb * P + ta * Q), vint 0, vint 0, vint (tr * D)]) (t := 82) (by simp)).ext hx2; have h2 : ∀ w', Ext w2 w' → _ := fun w' he => h2 w' (hxt.trans he); have h3 : ∀ w', Ext w2 w' → _ := fun w' he => h3 w' (hxt.trans he); have o0 := ko2.at_ 0 rfl; have o1 := ko2.at_ 1 rfl; have o2 := ko2.at_ 2 rfl; have o3 := ko2.at_ 3 rfl; have o4 := ko2.at_ 4 rfl; have Kt2 := Lib.hid kt2; have Ko2 := Lib.hid ko2; have Hlo2 := Lib.hid ko2.lt; have Kr2 := Lib.hid (Kr1.out.ext hx12); have Hx2 := Lib.hid (Hx1.out.trans hx12); clear p0 p1 p2 p3 p4 h0 h1 kt2 ko2 hx2 hx12 hxt))
  go_at_call 47
  refine (Cb.out _).mono ?_
  rintro e w3 ⟨rfl, hx3⟩
  have hx23 : Ext w2 w3 := ((Ext.refl _).alloc _).trans hx3
  have ku3 := (Blk.new' (W := w2) (n := w2.heap.size) (cs := #[vint ux, vint uy]) (t := 27) rfl).ext hx3
  have ko3 := Ko2.out.ext hx23
  have u0 := ku3.at_ 0 rfl
  have u1 := ku3.at_ 1 rfl
  have t2c := (Kt2.out.ext hx23).at_ 2 rfl
  clear o0
  have o0 := ko3.at_ 0 rfl
  clear o1
  have o1 := ko3.at_ 1 rfl
  clear o2
  have o2 := ko3.at_ 2 rfl
  clear o3
  have o3 := ko3.at_ 3 rfl
  clear o4
  have o4 := ko3.at_ 4 rfl
  have fo2 := ko3.free 2
  have fo3 := ko3.free 3
  have n1 : w1.heap.size + 1 ≠ w2.heap.size := by have := Hlo2.out; omega
  have n2 : w1.heap.size + 1 ≠ w3.heap.size := by have := ko3.lt; omega
  have Ko3 := Lib.hid ko3
  have Kr3 := Lib.hid (Kr2.out.ext hx23)
  have Hx3 := Lib.hid (Hx2.out.trans hx23)
  clear h2 h3 ku3 ko3 hx3 hx23
  have kz := ((Ko3.out.ext ((Ext.refl w3).alloc (.cells #[vint vx, vint vy] 27))).set (j := 2) (by simp) (vint (ux * tr - vx))).set (j := 3) (by simp) (vint (uy * tr - vy))
  have z0 := kz.c 0 _ rfl
  have z1 := kz.c 1 _ rfl
  have z2 := kz.c 2 _ rfl
  have z3 := kz.c 3 _ rfl
  have z4 := kz.c 4 _ rfl
  have Kz := Lib.hid kz
  clear kz
  go_wp2_with fail
  go_at_call 106
  refine (Cl.out _).mono ?_
  rintro e w4 ⟨rfl, hx4⟩
  have hn3 : w.heap.size + 1 + 1 ≠ w1.heap.size + 1 := by have := Kr1.out.lt; omega
  have hwt : w.heap.size ≤ w1.heap.size := by have := Kr1.out.lt; omega
  have kr4 := (((Kr3.out.ext ((Ext.refl w3).alloc (.cells #[vint vx, vint vy] 27))).other (b := w1.heap.size + 1) (k := 2) hn3.symm (vint (ux * tr - vx))).other (b := w1.heap.size + 1) (k := 3) hn3.symm (vint (uy * tr - vy))).ext hx4
  have hx4' := (((Hx3.out.trans ((Ext.refl w3).alloc (.cells #[vint vx, vint vy] 27))).setCell (p := ⟨w1.heap.size + 1, 2, none⟩) (by simp only; omega) (vint (ux * tr - vx))).setCell (p := ⟨w1.heap.size + 1, 3, none⟩) (by simp only; omega) (vint (uy * tr - vy))).trans hx4
  have k0 := kr4.at_ 0 rfl
  have k1 := kr4.at_ 1 rfl
  have k2 := kr4.at_ 2 rfl
  have k3 := kr4.at_ 3 rfl
  have k4 := kr4.at_ 4 rfl
  have g0 := kr4.free 0
  have g1 := kr4.free 1
  have g2 := kr4.free 2
  have g3 := kr4.free 3
  have g4 := kr4.free 4
  clear z0 z1 z2 z3 z4 u0 u1 t2c o0 o1 o2 o3 o4 fo2 fo3
  go_wp2
  (try simp only [Exit.inBlock, Exit.then])
  have kf := (((((kr4.set (j := 0) (by simp) (.int .i64 lp)).set (j := 1) (by simp) (.int .i64 lq)).set (j := 2) (by simp) (.int .i64 lx)).set (j := 3) (by simp) (.int .i64 ly)).set (j := 4) (by simp) (.int .i64 ld))
  refine bodyPost_ret (results_pose rfl _ _ rfl kf) rfl ⟨rfl, ?_⟩
  exact (((((hx4'.setCell (by simp only; omega) _).setCell (by simp only; omega) _).setCell (by simp only; omega) _).setCell (by simp only; omega) _).setCell (by simp only; omega) _)
theorem next_any (p : Ps) (h : Hg) (k : Nat) (w : World) (hp : PoseOk p k) (hk : k ≤ 2) (hh : hingeB h) :
    Calls Try.prog 84 #[p.val, h.val] w fun e w' => e = .returned (flw p h (trn h.ang.toNat)).val ∧ Ext w w' := by
  have hn : h.ang.toNat < 36 := by have := hh.2.2; omega
  have hang : ((h.ang.toNat : Nat) : Int) = h.ang := by have := hh.2.2; omega
  have hr := pose_mono (raw_ok hp hh hn) (m := 3) (by omega)
  have ho := psOk (pose_mono (trn_ok hp hn) (m := 3) (by omega))
  have hp3 := psOk (pose_mono hp (m := 3) (by omega))
  have ct := fun w' => turn_any h.ang.toNat hn w'
  rw [hang] at ct
  have ca := fun w' => at_any p h.a w' hp3 hh.1
  have cb := fun w' => at_any (trnP p (trn h.ang.toNat)) h.b w' ho hh.2.1
  have cl := fun w' => lowest_any (raw p h (trn h.ang.toNat)) w' hr
  rw [raw_eq, Int.mul_comm _ (plc p h.a).x, Int.mul_comm _ (plc p h.a).y] at cl
  have sa := plc_small (pose_mono hp (m := 3) (by omega)) hh.1
  have sb := plc_small (pose_mono (trn_ok hp hn) (m := 3) (by omega)) hh.2.1
  obtain ⟨t1, t2, t3⟩ := trn_small _ hn
  have f1 := prod_le t1.1 t1.2 hp3.bp.1 hp3.bp.2
  have f2 := prod_le t2.1 t2.2 hp3.bq.1 hp3.bq.2
  have f3 := prod_le t2.1 t2.2 hp3.bp.1 hp3.bp.2
  have f4 := prod_le t1.1 t1.2 hp3.bq.1 hp3.bq.2
  have f5 := prod_le (a := (trn h.ang.toNat).2.2) (d := 25) (s := p.d) (m := 15625) (by omega) (by omega) (by have := hp3.bd; omega) hp3.bd.2
  have f6 := prod_le (a := (plc p h.a).x) (d := 10937500) (s := (trn h.ang.toNat).2.2) (m := 25) sa.1.1 sa.1.2 (by omega) (by omega)
  have f7 := prod_le (a := (plc p h.a).y) (d := 10937500) (s := (trn h.ang.toNat).2.2) (m := 25) sa.2.1 sa.2.2 (by omega) (by omega)
  have e : flw p h (trn h.ang.toNat) = low ⟨(trnP p (trn h.ang.toNat)).p, (trnP p (trn h.ang.toNat)).q, (plc p h.a).x * (trn h.ang.toNat).2.2 - (plc (trnP p (trn h.ang.toNat)) h.b).x, (plc p h.a).y * (trn h.ang.toNat).2.2 - (plc (trnP p (trn h.ang.toNat)) h.b).y, (trnP p (trn h.ang.toNat)).d⟩ := by
    rw [flw, raw_eq, Int.mul_comm _ (plc p h.a).x, Int.mul_comm _ (plc p h.a).y]
  rw [e]
  exact next_core p.p p.q p.x p.y p.d (trn h.ang.toNat).1 (trn h.ang.toNat).2.1 (trn h.ang.toNat).2.2 h.a.x h.a.y h.b.x h.b.y h.ang (plc p h.a).x (plc p h.a).y (plc (trnP p (trn h.ang.toNat)) h.b).x (plc (trnP p (trn h.ang.toNat)) h.b).y _ _ _ _ _ w f1 f2 f3 f4 f5 f6 f7 sb.1 sb.2 ct ca cb cl
end Go.Proofs.Yteilglljigjefaa

/- The poses of a linkage, by both. -/
namespace Go.Proofs.Yteilglljigjefaa
open Go.RowKit
theorem pose_elem : ElemInfo 82 (.agg #[.int .i64 0, .int .i64 0, .int .i64 0, .int .i64 0, .int .i64 0]) 5 40 := ⟨info_parts (by kernel_rfl), rfl, by decide⟩
abbrev OwnP (w1 w : World) (v : Value) (xs : List Ps) : Prop := Own w1 w 82 5 v xs.length (xs.map Ps.cells).flatten
def posT (hs : List Hg) (k : Nat) : List Ps := (List.range (k + 1)).map (posF hs)
theorem posT_succ (hs : List Hg) (k : Nat) : posT hs (k + 1) = posT hs k ++ [posF hs (k + 1)] := by simp [posT, List.range_succ]
theorem posT_len (hs : List Hg) (k : Nat) : (posT hs k).length = k + 1 := by simp [posT]
theorem posT_at {hs : List Hg} {k i : Nat} (h : i ≤ k) : psA (posT hs k) i = posF hs i := by
  rw [psA_at (by rw [posT_len]; omega)]
  simp [posT]
theorem posT_all (hs : List Hg) : posT hs hs.length = posesL hs := rfl
theorem row_heap {w : World} {b : Nat} {l : List Value} {t : TypeId} (h : w.heap[b]? = some (.cells l.toArray t)) : Row w (some ⟨b, 0, none⟩) l := fun k hk => ⟨_, rfl, by rw [add_zero', cell_heap h]; simp⟩
theorem posF_step {hs : List Hg} {k : Nat} (_ : k < hs.length) : posF hs (k + 1) = flw (posF hs k) (hgA hs k) (trn (hgA hs k).ang.toNat) := rfl

set_option maxRecDepth 100000 in
set_option maxHeartbeats 4000000 in
theorem poses_any (A : Option Addr) (np c : Nat) (B : Option Addr) (d : Nat) (hs : List Hg) (w : World) (hB : HRow w B hs) (hl : hs.length ≤ 3) (hh : ∀ h ∈ hs, hingeB h) :
    Calls Try.prog 64 #[.agg #[.slice A np c, .slice B hs.length d]] w fun e w' => ∃ v, e = .returned v ∧ OwnP w w' v (posesL hs) := by
  have ha := fun k (hk : k < hs.length) => hB.at_ hk
  have hok := fun k (hk : k ≤ hs.length) => posF_ok hh k hk
  have hhg := fun k (hk : k < hs.length) => by have := hh _ (List.getElem_mem hk); rw [← hgA_at hk] at this; exact this
  have hst := fun k (hk : k < hs.length) => posF_step hk
  have hsu := posT_succ hs
  have hln := posT_len hs
  have hat := fun k => posT_at (hs := hs) (k := k) (i := k) (Nat.le_refl _)
  have hall := posT_all hs
  have hcf := fun (p : Ps) (h : Hg) (n k : Nat) (w' : World) (h1 : PoseOk p k) (h2 : k ≤ 2) (h3 : hingeB h) (h4 : n < 36) => follow_any p h n k w' h1 h2 h3 h4
  have Ha := Lib.hid ha
  have Hok := Lib.hid hok
  have Hhg := Lib.hid hhg
  have Hst := Lib.hid hst
  have Hsu := Lib.hid hsu
  have Hln := Lib.hid hln
  have Hat := Lib.hid hat
  have Hall := Lib.hid hall
  have Hcf := Lib.hid hcf
  clear ha hok hhg hst hsu hln hat hall hcf hB hh
  generalize posesL hs = PL at *
  obtain ⟨n, hn⟩ : ∃ n, n = hs.length := ⟨_, rfl⟩
  rw [← hn] at Ha Hok Hhg Hst Hall hl ⊢
  have Hn := Lib.hid hn
  clear hn
  have kb0 : Blk (w.alloc (.cells #[.slice A np c, .slice B n d] 25)) w.heap.size [.slice A np c, .slice B n d] := Blk.new _ _
  have hx0 : Ext w (w.alloc (.cells #[.slice A np c, .slice B n d] 25)) := (Ext.refl _).alloc _
  have Kb0 := Lib.hid kb0
  have Hx0 := Lib.hid hx0
  clear kb0 hx0
  go_enter Try.func64, Try.ntmps64
  go_wp2_with (first
    | (go_at_call 52; refine (table_any _).mono ?_; rintro e w1 ⟨rfl, hx1⟩; have kb1 := Kb0.out.ext hx1; have b1 := (kb1.ext ((Ext.refl _).alloc (.cells (turns.flatMap tcells).toArray 99))).at_ 1 rfl)
    | (refine wpList_store_row rfl 99 (.tmp 3) (.tmp 7) rfl w1.heap.size (turns.flatMap tcells).toArray rfl rfl 99 Try.zeroCells99 (Go.heap_alloc_new _ _) (by kernel_rfl) (by kernel_rfl) (by kernel_rfl) ?_; rw [World.setRow_alloc_new]))
  have htab : TRow (w1.alloc (.cells (turns.flatMap tcells).toArray 99)) (some ⟨w1.heap.size, 0, none⟩) turns := Whole.row (Whole.new rfl) 0 _ (by kernel_rfl)
  have hown0 : Own (w1.alloc (.cells (turns.flatMap tcells).toArray 99)) ((w1.alloc (.cells (turns.flatMap tcells).toArray 99)).alloc (.cells #[.int .i64 1, .int .i64 0, .int .i64 0, .int .i64 0, .int .i64 1] 82)) 82 5 (.slice (some ⟨w1.heap.size + 1, 0, none⟩) 1 1) 1 ((posT hs 0).map Ps.cells).flatten := by
    have h := Own.lit (w1 := w1.alloc (.cells (turns.flatMap tcells).toArray 99)) (e := 82) (size := 5) (Ext.refl _) #[.int .i64 1, .int .i64 0, .int .i64 0, .int .i64 0, .int .i64 1] 1 (by unfold maxLen; omega) rfl
    have e : (w1.alloc (.cells (turns.flatMap tcells).toArray 99)).heap.size = w1.heap.size + 1 := by simp
    rw [e] at h
    exact h
  have hxt : Ext w (w1.alloc (.cells (turns.flatMap tcells).toArray 99)) := (Hx0.out.trans hx1).alloc _
  have htat := fun (m : Nat) (hm : m < 36) => TRow.at_ htab (k := m) hm
  have hcn : ∀ m, tAt turns m = trn m := fun _ => rfl
  simp only [hcn] at htat
  generalize (w1.alloc (.cells (turns.flatMap tcells).toArray 99)) = Wt at b1 htat hown0 hxt ⊢
  have Ht := Lib.hid htat
  have Hxt := Lib.hid hxt
  have B1 := Lib.hid b1
  generalize w1.heap.size = gt at Ht hown0 ⊢
  clear htab htat hxt hx1 kb1 b1 hcn Kb0 Hx0
  go_loopw [13, 4] (fun i v wr => ∃ k : Nat, k ≤ n ∧ i = .int .i64 k ∧ Own Wt wr 82 5 v (k + 1) ((posT hs k).map Ps.cells).flatten) (fun i _ _ => n - (intOf i).toNat)
  case atStart => exact ⟨0, by omega, rfl, hown0⟩
  case round =>
    obtain ⟨k, hk, rfl, hown⟩ := hrel
    obtain ⟨g4, c4, rfl, _, _⟩ := hown.at_ (by omega)
    by_cases hlt : k < n
    · have hxw := hown.ext
      have hrow : PRow wr (some ⟨g4, 0, none⟩) (posT hs k) := Own.row hown
      obtain ⟨_, ee, p0, p1, p2, p3, p4⟩ := hrow.at_ (k := k) (by rw [Hln.out]; omega)
      cases ee
      simp only [Hat.out k, add_zero'] at p0 p1 p2 p3 p4
      obtain ⟨ad, rfl, r0, r1, r2, r3, r4⟩ := Ha.out k hlt
      have hxr := Hxt.out.trans hxw
      have h0 : ∀ w', Ext wr w' → _ := fun w' he => r0 w' (hxr.trans he)
      have h1 : ∀ w', Ext wr w' → _ := fun w' he => r1 w' (hxr.trans he)
      have h2 : ∀ w', Ext wr w' → _ := fun w' he => r2 w' (hxr.trans he)
      have h3 : ∀ w', Ext wr w' → _ := fun w' he => r3 w' (hxr.trans he)
      have h4 : ∀ w', Ext wr w' → _ := fun w' he => r4 w' (hxr.trans he)
      clear r0 r1 r2 r3 r4
      have hh := Hhg.out k hlt
      have hok := Hok.out k (by omega)
      have hst := Hst.out k hlt
      generalize hgA hs k = h at h0 h1 h2 h3 h4 hh hst
      obtain ⟨m, hm⟩ : ∃ m : Nat, h.ang = m := ⟨h.ang.toNat, by have := hh.2.2; omega⟩
      have hm36 : m < 36 := by have := hh.2.2; omega
      rw [show h.ang.toNat = m by omega] at hst
      rw [hm] at h4
      have hfo := fun w' => Hcf.out (posF hs k) h m k w' hok (by omega) hh hm36
      rw [← hst] at hfo
      obtain ⟨_, ee, s0, s1, s2⟩ := Ht.out m hm36
      cases ee
      simp only [add_zero'] at s0 s1 s2
      have hval : h.val = .agg #[vint h.a.x, vint h.a.y, vint h.b.x, vint h.b.y, vint m] := by rw [← hm]
      rw [hval] at hfo
      have Hfo := Lib.hid hfo
      have Hst' := Lib.hid hst
      clear hfo hst hh hok hval hm
      generalize h.a.x = ax at h0 Hfo
      generalize h.a.y = ay at h1 Hfo
      generalize h.b.x = bx at h2 Hfo
      generalize h.b.y = bY at h3 Hfo
      have b36 : (m : Int) < 36 := by omega
      have hki : (k : Int) < (n : Int) := by omega
      have hk1 : (k : Int) < ((k + 1 : Nat) : Int) := by omega
      have b1 : ∀ w', Ext wr w' → _ := fun w' he => B1.out w' (hxw.trans he)
      have t0 : ∀ w', Ext wr w' → _ := fun w' he => s0 w' (hxw.trans he)
      have t1 : ∀ w', Ext wr w' → _ := fun w' he => s1 w' (hxw.trans he)
      have t2 : ∀ w', Ext wr w' → _ := fun w' he => s2 w' (hxw.trans he)
      clear s0 s1 s2 Ha Hok Hhg Hst Hcf Ht B1 Hxt
      go_wp2
      have k6 : Blk (wr.alloc (.cells #[vint ax, vint ay, vint bx, vint bY, vint m] 85)) wr.heap.size [vint ax, vint ay, vint bx, vint bY, vint m] := Blk.new _ _
      have hx6 : Ext wr (wr.alloc (.cells #[vint ax, vint ay, vint bx, vint bY, vint m] 85)) := (Ext.refl _).alloc _
      generalize (wr.alloc (.cells #[vint ax, vint ay, vint bx, vint bY, vint m] 85)) = w6 at k6 hx6 ⊢
      have hm0 : (0 : Int) ≤ (m : Int) := by omega
      have p0' : ∀ w', Ext w6 w' → _ := fun w' he => p0 w' (hx6.trans he)
      have p1' : ∀ w', Ext w6 w' → _ := fun w' he => p1 w' (hx6.trans he)
      have p2' : ∀ w', Ext w6 w' → _ := fun w' he => p2 w' (hx6.trans he)
      have p3' : ∀ w', Ext w6 w' → _ := fun w' he => p3 w' (hx6.trans he)
      have p4' : ∀ w', Ext w6 w' → _ := fun w' he => p4 w' (hx6.trans he)
      have t0' : ∀ w', Ext w6 w' → _ := fun w' he => t0 w' (hx6.trans he)
      have t1' : ∀ w', Ext w6 w' → _ := fun w' he => t1 w' (hx6.trans he)
      have t2' : ∀ w', Ext w6 w' → _ := fun w' he => t2 w' (hx6.trans he)
      have i0 := k6.at_ 0 rfl
      have i1 := k6.at_ 1 rfl
      have i2 := k6.at_ 2 rfl
      have i3 := k6.at_ 3 rfl
      have i4 := k6.at_ 4 rfl
      clear p0 p1 p2 p3 p4 t0 t1 t2 h0 h1 h2 h3 h4 b1
      refine wp_region_calm 12 (fun j _ v _ => j = 10 → v = (posF hs (k + 1)).val) (fun _ _ _ _ _ _ h => h) (by kernel_rfl) (by kernel_rfl) ?_
      simp only [List.take_succ_cons, List.take_zero, List.drop_succ_cons, List.drop_zero]
      refine calm_quiet calm_mono_final 10 (by kernel_rfl) ?_
      simp only [List.take_succ_cons, List.take_zero, List.drop_succ_cons, List.drop_zero]
      repeat (go_big_quiet_step (fail))
      refine wpQuiet_nil ?_
      refine calm_call calm_mono_final 55 #[(posF hs k).val, .agg #[vint ax, vint ay, vint bx, vint bY, vint m], tval (trn m)] rfl (fun w => ?_) (fun w he hF => ?_) ?_
      · go_simp
      · exact (Hfo.out w).mono fun e w'' ⟨he', hx⟩ => ⟨_, he', hx, fun _ => rfl⟩
      rintro _ _ _ h
      cases h rfl
      simp only [Act.put, List.setIfInBounds_toArray, List.set_cons_succ, List.set_cons_zero]
      refine calm_alloc calm_mono_final (fun b => .slice (some ⟨b, 0, none⟩) 1 1) (.cells (posF hs (k + 1)).cells.toArray 82) (fun b c h => by simpa using h) rfl (fun w => ?_) (fun b hb => ?_)
      · go_simp
        rfl
      simp only [Act.put, List.setIfInBounds_toArray, List.set_cons_succ, List.set_cons_zero]
      refine calm_nil fun w3 he3 hF => ?_
      have hrow3 := row_heap ((hF 11).2 rfl)
      clear hF
      have hov := hown.later (hx6.trans he3)
      have Hfl := Lib.hid (show ((posT hs (k + 1)).map Ps.cells).flatten = ((posT hs k).map Ps.cells).flatten ++ (posF hs (k + 1)).cells by rw [Hsu.out]; simp)
      go_wp2_with (refine own_append_src (w1 := Wt) pose_elem rfl _ _ 47 rfl Try.underlying47 _ (k + 1) _ rfl hov _ 1 1 _ rfl rfl hrow3 (by intro u hu; simp [Ps.cells] at hu; rcases hu with rfl | rfl | rfl | rfl | rfl <;> rfl) (by omega) (by unfold maxLen; omega) ?_; intro v' w' ho _)
      go_roundw
      case rel => exact ⟨k + 1, by omega, by go_num, by rw [Hfl.out]; exact ho⟩
      case measure => simp [intOf]; omega
    · obtain rfl : n = k := by omega
      have hall := Hall.out
      have hln := Hln.out n
      rw [hall] at hln hown
      have Hln' := Lib.hid hln
      have Hown := Lib.hid hown
      clear hall hln hown
      go_wp2
      go_ret
      refine ⟨_, rfl, ?_⟩
      show Own w wr _ 5 _ PL.length _
      rw [Hln'.out]
      exact Hown.out.since Hxt.out
end Go.Proofs.Yteilglljigjefaa

/- The poses of a linkage, by the reference. -/
namespace Go.Proofs.Yteilglljigjefaa
open Go.RowKit
set_option maxRecDepth 100000 in
set_option maxHeartbeats 4000000 in
theorem placed_any (A : Option Addr) (np c : Nat) (B : Option Addr) (d : Nat) (hs : List Hg) (w : World) (hB : HRow w B hs) (hl : hs.length ≤ 3) (hh : ∀ h ∈ hs, hingeB h) :
    Calls Try.prog 66 #[.agg #[.slice A np c, .slice B hs.length d]] w fun e w' => ∃ v, e = .returned v ∧ OwnP w w' v (posesL hs) := by
  have ha := fun k (hk : k < hs.length) => hB.at_ hk
  have hhg := fun k (hk : k < hs.length) => by have := hh _ (List.getElem_mem hk); rw [← hgA_at hk] at this; exact this
  have hcf := fun k (hk : k < hs.length) (w' : World) => next_any (posF hs k) (hgA hs k) k w' (posF_ok hh k (by omega)) (by omega) (hhg k hk)
  have hst := fun k (hk : k < hs.length) => posF_step hk
  have hsu := posT_succ hs
  have hln := posT_len hs
  have hat := fun k => posT_at (hs := hs) (k := k) (i := k) (Nat.le_refl _)
  have hall := posT_all hs
  have Ha := Lib.hid ha
  have Hst := Lib.hid hst
  have Hsu := Lib.hid hsu
  have Hln := Lib.hid hln
  have Hat := Lib.hid hat
  have Hall := Lib.hid hall
  have Hcf := Lib.hid hcf
  clear ha hhg hst hsu hln hat hall hcf hB hh
  generalize posesL hs = PL at *
  obtain ⟨n, hn⟩ : ∃ n, n = hs.length := ⟨_, rfl⟩
  rw [← hn] at Ha Hst Hcf Hall hl ⊢
  clear hn
  have b0 : ∀ w', Ext (w.alloc (.cells #[.slice A np c, .slice B n d] 25)) w' → w'.cell? ⟨w.heap.size, 1, none⟩ = some (.slice B n d) := (Blk.new (W := w) #[.slice A np c, .slice B n d] 25).at_ 1 rfl
  have hx0 : Ext w (w.alloc (.cells #[.slice A np c, .slice B n d] 25)) := (Ext.refl _).alloc _
  have hown0 : Own (w.alloc (.cells #[.slice A np c, .slice B n d] 25)) ((w.alloc (.cells #[.slice A np c, .slice B n d] 25)).alloc (.cells #[.int .i64 1, .int .i64 0, .int .i64 0, .int .i64 0, .int .i64 1] 82)) 82 5 (.slice (some ⟨w.heap.size + 1, 0, none⟩) 1 1) 1 ((posT hs 0).map Ps.cells).flatten := by
    have h := Own.lit (w1 := (w.alloc (.cells #[.slice A np c, .slice B n d] 25))) (e := 82) (size := 5) (Ext.refl _) #[.int .i64 1, .int .i64 0, .int .i64 0, .int .i64 0, .int .i64 1] 1 (by unfold maxLen; omega) rfl
    have e : (w.alloc (.cells #[.slice A np c, .slice B n d] 25)).heap.size = w.heap.size + 1 := by simp
    rw [e] at h
    exact h
  go_enter Try.func66, Try.ntmps66
  go_wp2
  generalize (w.alloc (.cells #[.slice A np c, .slice B n d] 25)) = Wt at b0 hx0 hown0 ⊢
  have Hxt := Lib.hid hx0
  have B1 := Lib.hid b0
  clear hx0 b0
  go_loopw [4, 3] (fun i v wr => ∃ k : Nat, k ≤ n ∧ i = .int .i64 k ∧ Own Wt wr 82 5 v (k + 1) ((posT hs k).map Ps.cells).flatten) (fun i _ _ => n - (intOf i).toNat)
  case atStart => exact ⟨0, by omega, rfl, hown0⟩
  case round =>
    obtain ⟨k, hk, rfl, hown⟩ := hrel
    obtain ⟨g4, c4, rfl, _, _⟩ := hown.at_ (by omega)
    have hxw := hown.ext
    have b1 : ∀ w', Ext wr w' → _ := fun w' he => B1.out w' (hxw.trans he)
    by_cases hlt : k < n
    · have hrow : PRow wr (some ⟨g4, 0, none⟩) (posT hs k) := Own.row hown
      obtain ⟨_, ee, p0, p1, p2, p3, p4⟩ := hrow.at_ (k := k) (by rw [Hln.out]; omega)
      cases ee
      simp only [Hat.out k, add_zero'] at p0 p1 p2 p3 p4
      obtain ⟨ad, rfl, r0, r1, r2, r3, r4⟩ := Ha.out k hlt
      have hxr := Hxt.out.trans hxw
      have h0 : ∀ w', Ext wr w' → _ := fun w' he => r0 w' (hxr.trans he)
      have h1 : ∀ w', Ext wr w' → _ := fun w' he => r1 w' (hxr.trans he)
      have h2 : ∀ w', Ext wr w' → _ := fun w' he => r2 w' (hxr.trans he)
      have h3 : ∀ w', Ext wr w' → _ := fun w' he => r3 w' (hxr.trans he)
      have h4 : ∀ w', Ext wr w' → _ := fun w' he => r4 w' (hxr.trans he)
      clear r0 r1 r2 r3 r4
      have hst := Hst.out k hlt
      have hfo := Hcf.out k hlt
      rw [← hst] at hfo
      have Hfo := Lib.hid hfo
      clear hfo hst Ha Hst Hcf B1 Hxt
      generalize hgA hs k = h at h0 h1 h2 h3 h4 Hfo
      have hki : (k : Int) < (n : Int) := by omega
      have hk1 : (k : Int) < ((k + 1 : Nat) : Int) := by omega
      go_wp2
      refine wp_region_calm 12 (fun j _ v _ => j = 10 → v = (posF hs (k + 1)).val) (fun _ _ _ _ _ _ h => h) (by kernel_rfl) (by kernel_rfl) ?_
      simp only [List.take_succ_cons, List.take_zero, List.drop_succ_cons, List.drop_zero]
      refine calm_quiet calm_mono_final 10 (by kernel_rfl) ?_
      simp only [List.take_succ_cons, List.take_zero, List.drop_succ_cons, List.drop_zero]
      repeat (go_big_quiet_step (fail))
      refine wpQuiet_nil ?_
      refine calm_call calm_mono_final 84 #[(posF hs k).val, h.val] rfl (fun w => ?_) (fun w he hF => ?_) ?_
      · go_simp
      · exact (Hfo.out w).mono fun e w'' ⟨he', hx⟩ => ⟨_, he', hx, fun _ => rfl⟩
      rintro _ _ _ h
      cases h rfl
      simp only [Act.put, List.setIfInBounds_toArray, List.set_cons_succ, List.set_cons_zero]
      refine calm_alloc calm_mono_final (fun b => .slice (some ⟨b, 0, none⟩) 1 1) (.cells (posF hs (k + 1)).cells.toArray 82) (fun b c h => by simpa using h) rfl (fun w => ?_) (fun b hb => ?_)
      · go_simp
        rfl
      simp only [Act.put, List.setIfInBounds_toArray, List.set_cons_succ, List.set_cons_zero]
      refine calm_nil fun w3 he3 hF => ?_
      have hrow3 := row_heap ((hF 11).2 rfl)
      clear hF
      have hov := hown.later he3
      have Hfl := Lib.hid (show ((posT hs (k + 1)).map Ps.cells).flatten = ((posT hs k).map Ps.cells).flatten ++ (posF hs (k + 1)).cells by rw [Hsu.out]; simp)
      go_wp2_with (refine own_append_src (w1 := Wt) pose_elem rfl _ _ 47 rfl Try.underlying47 _ (k + 1) _ rfl hov _ 1 1 _ rfl rfl hrow3 (by intro u hu; simp [Ps.cells] at hu; rcases hu with rfl | rfl | rfl | rfl | rfl <;> rfl) (by omega) (by unfold maxLen; omega) ?_; intro v' w' ho _)
      go_roundw
      case rel => exact ⟨k + 1, by omega, by go_num, by rw [Hfl.out]; exact ho⟩
      case measure => simp [intOf]; omega
    · obtain rfl : n = k := by omega
      have hall := Hall.out
      have hln := Hln.out n
      rw [hall] at hln hown
      have Hln' := Lib.hid hln
      have Hown := Lib.hid hown
      clear hall hln hown
      go_wp2
      go_ret
      refine ⟨_, rfl, ?_⟩
      show Own w wr _ 5 _ PL.length _
      rw [Hln'.out]
      exact Hown.out.since Hxt.out
end Go.Proofs.Yteilglljigjefaa
