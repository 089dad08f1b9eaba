/- A region that draws its order, whose operations each yield one value, whatever the order: one look at each operation serves every order. No program in sight. -/
import Derived.Test.YteilglljigjefaaJ01
namespace Go.Proofs.Yteilglljigjefaa
namespace DetR
open Go.RowKit

/-- The frame behind some operations. -/
def puts (vals : Nat → Value) : List Oper → Nat → Act → Act
  | [], _, a => a
  | o :: l, j, a => puts vals l (j + 1) (a.put o.dst (vals j))

/-- A frame in which the operations of L have been carried out. -/
structure At (ops : Array Oper) (vals : Nat → Value) (a0 : Act) (L : Nat → Bool) (a : Act) : Prop where
  size : a.tmps.size = a0.tmps.size
  defers : a.defers = a0.defers
  on : ∀ j o k, ops[j]? = some o → L j = true → o.dst = some k → a.tmps[k]? = some (vals j)
  off : ∀ k, (∀ j o, ops[j]? = some o → L j = true → o.dst ≠ some k) → a.tmps[k]? = a0.tmps[k]?

/-- Each operation writes a slot of its own, within the frame; none is guarded; edges that bind go back. -/
def okB (ops : Array Oper) (n : Nat) : Bool :=
  (List.range ops.size).all fun i => match ops[i]? with
    | some o => o.guard.isNone && (o.after.all fun e => !Region.binds .any e || decide (e.on < i)) && (match o.dst with
      | some k => decide (k < n) && ((List.range ops.size).all fun j => j == i || (match ops[j]? with | some o' => !(o'.dst == some k) | none => true))
      | none => true)
    | none => true

variable {ops : Array Oper} {vals : Nat → Value} {a0 a b : Act} {L M : Nat → Bool}
theorem okB_at {n : Nat} (h : okB ops n = true) {i : Nat} {o : Oper} (ho : ops[i]? = some o) : o.guard = none ∧ (∀ e ∈ o.after, Region.binds .any e = true → e.on < i) ∧ ∀ k, o.dst = some k → k < n ∧ ∀ j o', ops[j]? = some o' → o'.dst = some k → j = i := by
  have hi := (Array.getElem?_eq_some_iff.1 ho).1
  have h1 := List.all_eq_true.1 h i (List.mem_range.2 hi)
  simp only [ho, Bool.and_eq_true] at h1
  obtain ⟨⟨h2, h3⟩, h4⟩ := h1
  refine ⟨by simpa using h2, fun e he hb => ?_, fun k hk => ?_⟩
  · have := (Array.all_eq_true_iff_forall_mem.1 h3) e he
    simpa [hb] using this
  · rw [hk] at h4
    simp only [Bool.and_eq_true, decide_eq_true_eq] at h4
    refine ⟨h4.1, fun j o' hj hd => ?_⟩
    have h5 := List.all_eq_true.1 h4.2 j (List.mem_range.2 (Array.getElem?_eq_some_iff.1 hj).1)
    simp only [hj, hd, Bool.or_eq_true, beq_iff_eq] at h5
    simpa using h5
theorem At.start : At ops vals a0 (fun _ => false) a0 := ⟨rfl, rfl, fun _ _ _ _ h => (by cases h), fun _ _ => rfl⟩
theorem At.congr (h : At ops vals a0 L a) (he : ∀ j o, ops[j]? = some o → L j = M j) : At ops vals a0 M a :=
  ⟨h.size, h.defers, fun j o k ho hm => h.on j o k ho (by rw [he j o ho]; exact hm), fun k hk => h.off k fun j o ho hl => hk j o ho (by rw [← he j o ho]; exact hl)⟩
theorem At.put (h : At ops vals a0 L a) (hB : okB ops a0.tmps.size = true) {i : Nat} {o : Oper} (ho : ops[i]? = some o) (hi : L i = false) : At ops vals a0 (fun j => L j || j == i) (a.put o.dst (vals i)) := by
  obtain ⟨_, _, h3⟩ := okB_at hB ho
  cases hd : o.dst with
  | none =>
    refine ⟨h.size, h.defers, fun j o' k hj hl hk => ?_, fun k hk => h.off k fun j o' hj hl => hk j o' hj (by simp [hl])⟩
    simp only [Bool.or_eq_true, beq_iff_eq] at hl
    rcases hl with hl | rfl
    · exact h.on j o' k hj hl hk
    · rw [ho] at hj
      cases hj
      rw [hd] at hk
      cases hk
  | some d =>
    obtain ⟨hlt, huniq⟩ := h3 d hd
    refine ⟨by simp [Act.put, h.size], h.defers, fun j o' k hj hl hk => ?_, fun k hk => ?_⟩
    · simp only [Act.put]
      by_cases hkd : k = d
      · subst hkd
        obtain rfl := huniq j o' hj hk
        rw [Array.getElem?_setIfInBounds_self_of_lt (by rw [h.size]; exact hlt)]
      · rw [Array.getElem?_setIfInBounds_ne (Ne.symm hkd)]
        simp only [Bool.or_eq_true, beq_iff_eq] at hl
        rcases hl with hl | rfl
        · exact h.on j o' k hj hl hk
        · rw [ho] at hj
          cases hj
          rw [hd] at hk
          exact absurd (Option.some.inj hk).symm hkd
    · simp only [Act.put]
      have hkd : d ≠ k := fun e => hk i o ho (by simp) (by rw [hd, e])
      rw [Array.getElem?_setIfInBounds_ne hkd]
      exact h.off k fun j o' hj hl => hk j o' hj (by simp [hl])
theorem At.unique (ha : At ops vals a0 L a) (hb : At ops vals a0 L b) : a = b := by
  obtain ⟨ta, da⟩ := a
  obtain ⟨tb, db⟩ := b
  have e1 : da = db := ha.defers.trans hb.defers.symm
  have e2 : ta = tb := by
    refine Array.ext_getElem? fun k => ?_
    by_cases h : ∃ j o, ops[j]? = some o ∧ L j = true ∧ o.dst = some k
    · obtain ⟨j, o, h1, h2, h3⟩ := h
      exact (ha.on j o k h1 h2 h3).trans (hb.on j o k h1 h2 h3).symm
    · have hn : ∀ j o, ops[j]? = some o → L j = true → o.dst ≠ some k := fun j o h1 h2 h3 => h ⟨j, o, h1, h2, h3⟩
      exact (ha.off k hn).trans (hb.off k hn).symm
  rw [e1, e2]
theorem puts_at (hB : okB ops a0.tmps.size = true) : ∀ (l : List Oper) (j : Nat) (a : Act), (∀ i, l[i]? = ops[j + i]?) → At ops vals a0 (fun m => decide (m < j)) a → At ops vals a0 (fun m => decide (m < j + l.length)) (puts vals l j a)
  | [], j, a, _, h => h
  | o :: l, j, a, hl, h => by
    have ho : ops[j]? = some o := by have := hl 0; simpa using this.symm
    have h1 := h.put hB ho (by simp)
    have h2 := puts_at hB l (j + 1) _ (fun i => by have := hl (i + 1); rw [show j + 1 + i = j + (i + 1) by omega, ← this]; simp) (h1.congr (M := fun m => decide (m < j + 1)) fun m o' _ => by
      rw [Bool.eq_iff_iff]
      simp only [Bool.or_eq_true, decide_eq_true_eq, beq_iff_eq]
      omega)
    refine h2.congr fun m o' _ => ?_
    simp only [List.length_cons]
    congr 1
    rw [show j + 1 + l.length = j + (l.length + 1) by omega]

/-- What an operation does: it yields its value, and the world goes on. -/
def okStep (P : Program) (o : Oper) (a : Act) (w : World) (v : Value) (K : World → Prop) : Prop := match (execOp a.eval o).run P w with
  | .ok (.value u) w' => u = v ∧ K w'
  | .ok .skip w' => o.dst = none ∧ K w'
  | .ok (.enter f args) w' => Calls P f args w' fun e w'' => e = .returned v ∧ K w''
  | _ => False
theorem wp_of_ok {P : Program} {o : Oper} {w : World} {v : Value} {K : World → Prop} {K' : Act → World → Prop} {Q : Exit → Act → World → Prop} (h : okStep P o a w v K) (hK : ∀ w', K w' → K' (a.put o.dst v) w') : o.wp P a w K' Q := by
  unfold okStep at h
  unfold Oper.wp
  generalize (execOp a.eval o).run P w = r at *
  cases r with
  | ok n w' =>
    cases n <;> simp only at h <;> simp only [Oper.upon]
    case value u => obtain ⟨rfl, h⟩ := h; exact hK _ h
    case skip =>
      have h2 := hK _ h.2
      rw [h.1] at h2 ⊢
      exact h2
    case enter f args => exact h.mono fun e w'' ⟨he, hk⟩ => by subst he; exact hK _ hk
  | halt x w' => simp only at h

/-- What the list says of the operations that have been carried out. -/
abbrev Ls (listed : Array Bool) : Nat → Bool := fun j => listed.getD j false
theorem set_ls {listed : Array Bool} {i : Nat} (hi : i < listed.size) : ∀ j, Ls (listed.setIfInBounds i true) j = (Ls listed j || j == i) := fun j => by
  simp only [Ls, Array.getD_eq_getD_getElem?]
  by_cases h : j = i
  · subst h
    rw [Array.getElem?_setIfInBounds_self_of_lt hi]
    simp
  · rw [Array.getElem?_setIfInBounds_ne (Ne.symm h)]
    simp [h]

def closedL (ops : Array Oper) (L : Nat → Bool) : Prop := ∀ j o, ops[j]? = some o → L j = true → ∀ e ∈ o.after, Region.binds .any e = true → L e.on = true

theorem wpAny_det {P : Program} {Q : Exit → Act → World → Prop} (Wd : (Nat → Bool) → World → Prop) (hB : okB ops a0.tmps.size = true)
    (hst : ∀ i o, ops[i]? = some o → ∀ L a w, L i = false → closedL ops L → (∀ e ∈ o.after, Region.binds .any e = true → L e.on = true) → At ops vals a0 L a → Wd L w → okStep P o a w (vals i) (fun w' => Wd (fun j => L j || j == i) w'))
    (hfin : ∀ L a w, (∀ j, j < ops.size → L j = true) → At ops vals a0 L a → Wd L w → Q .normal a w) :
    ∀ (f : Nat) (listed : Array Bool) (a : Act) (w : World), listed.size = ops.size → (listed.toList.filter (· == false)).length ≤ f → closedL ops (Ls listed) → At ops vals a0 (Ls listed) a → Wd (Ls listed) w → wpAny P .any ops Q f listed a w := by
  have hready : ∀ listed : Array Bool, listed.size = ops.size → Region.ready .any ops listed = [] → ∀ j, j < ops.size → Ls listed j = true := by
    intro listed hsz hr
    have key : ∀ n j, j < n → j < ops.size → Ls listed j = true := by
      intro n
      induction n with
      | zero => intro j h; omega
      | succ n ih =>
        intro j hj hjs
        cases hl : Ls listed j with
        | true => rfl
        | false =>
          exfalso
          have ho : ops[j]? = some ops[j] := Array.getElem?_eq_getElem hjs
          have : j ∈ Region.ready .any ops listed := by
            rw [mem_ready]
            refine ⟨?_, _, ho, fun e he hb => ?_⟩
            · have hjl : j < listed.size := by omega
              simp only [Ls, Array.getD_eq_getD_getElem?, Array.getElem?_eq_getElem hjl, Option.getD_some] at hl ⊢
              exact hl
            · have h1 := (okB_at hB ho).2.1 e he hb
              exact ih e.on (by omega) (by omega)
          rw [hr] at this
          cases this
    exact fun j hj => key (j + 1) j (by omega) hj
  intro f
  induction f with
  | zero =>
    intro listed a w hsz hf hcl hat hw
    have hall : ∀ j, j < ops.size → Ls listed j = true := fun j hj => by
      have hjl : j < listed.size := by omega
      cases hl : listed[j] with
      | true => simp [Ls, hjl, hl]
      | false =>
        have : false ∈ listed.toList.filter (· == false) := by
          rw [List.mem_filter]
          exact ⟨by rw [← hl]; simp, rfl⟩
        have h1 := List.length_pos_of_mem this
        omega
    refine ⟨?_, hfin _ _ _ hall hat hw⟩
    apply List.eq_nil_iff_forall_not_mem.2
    intro i hi
    obtain ⟨h1, o, ho, _⟩ := mem_ready.1 hi
    have h2 := hall i (Array.getElem?_eq_some_iff.1 ho).1
    have hil : i < listed.size := by have := (Array.getElem?_eq_some_iff.1 ho).1; omega
    simp only [Ls, Array.getD_eq_getD_getElem?, Array.getElem?_eq_getElem hil, Option.getD_some] at h1 h2
    rw [h1] at h2
    cases h2
  | succ f ih =>
    intro listed a w hsz hf hcl hat hw
    refine ⟨fun hr => hfin _ _ _ (hready listed hsz hr) hat hw, fun i hi => ?_⟩
    obtain ⟨h1, o, ho, hdep⟩ := mem_ready.1 hi
    have his := (Array.getElem?_eq_some_iff.1 ho).1
    have hil : i < listed.size := by omega
    have hun : Ls listed i = false := by
      simp only [Ls, Array.getD_eq_getD_getElem?, Array.getElem?_eq_getElem hil, Option.getD_some] at h1 ⊢
      exact h1
    have hs := set_ls hil
    have hs' : Ls (listed.setIfInBounds i true) = fun j => Ls listed j || j == i := funext hs
    unfold wpOp
    simp only [ho]
    have hwn : Region.wanted o (yielded ops a.tmps) = true := by unfold Region.wanted; rw [(okB_at hB ho).1]
    rw [if_pos hwn]
    refine .inl (wp_of_ok (hst i o ho (Ls listed) a w hun hcl hdep hat hw) fun w' hw' => ih _ _ _ (by simpa using hsz) ?_ ?_ ?_ ?_)
    · have e1 : listed.toList = listed.toList.take i ++ false :: listed.toList.drop (i + 1) := by
        have : listed.toList[i]'(by simpa using hil) = false := by
          simp only [Ls, Array.getD_eq_getD_getElem?, Array.getElem?_eq_getElem hil, Option.getD_some] at hun
          simpa using hun
        rw [← this, ← List.drop_eq_getElem_cons (by simpa using hil), List.take_append_drop]
      have e2 : (listed.setIfInBounds i true).toList = listed.toList.take i ++ true :: listed.toList.drop (i + 1) := by
        rw [Array.toList_setIfInBounds, List.set_eq_take_append_cons_drop, if_pos (by simpa using hil)]
      rw [e2]
      rw [e1] at hf
      simp only [List.filter_append, List.length_append] at hf ⊢
      simp at hf ⊢
      omega
    · rw [hs']
      intro j o' hj hl e he hb
      simp only [Bool.or_eq_true, beq_iff_eq] at hl ⊢
      rcases hl with hl | rfl
      · exact .inl (hcl j o' hj hl e he hb)
      · rw [ho] at hj
        cases hj
        exact .inl (hdep e he hb)
    · rw [hs']
      exact hat.put hB ho hun
    · rw [hs']
      exact hw'

theorem wp_region_det {P : Program} {id : Nat} {Q : Exit → Act → World → Prop} {w : World} {l : List Oper} (vals : Nat → Value) (Wd : (Nat → Bool) → World → Prop) (hm : P.follows .mixedOrders = true) (hB : okB l.toArray a0.tmps.size = true)
    (h0 : Wd (fun _ => false) { w with drawn := w.drawn + 1 })
    (hst : ∀ i o, l[i]? = some o → ∀ L a w, L i = false → closedL l.toArray L → (∀ e ∈ o.after, Region.binds .any e = true → L e.on = true) → At l.toArray vals a0 L a → Wd L w → okStep P o a w (vals i) (fun w' => Wd (fun j => L j || j == i) w'))
    (hfin : ∀ L w, (∀ j, j < l.length → L j = true) → Wd L w → Q .normal (puts vals l 0 a0) w) : (Code.region id l.toArray true).wp P Q a0 w := by
  refine wp_region_any hm ?_
  have hls : Ls (Array.replicate l.toArray.size false) = fun _ => false := funext fun j => by
    simp only [Ls, Array.getD_eq_getD_getElem?]
    by_cases h : j < l.toArray.size
    · rw [Array.getElem?_replicate, if_pos h]
      rfl
    · rw [Array.getElem?_replicate, if_neg h]
      rfl
  refine wpAny_det (vals := vals) (a0 := a0) Wd hB (fun i o ho => hst i o (by simpa using ho)) (fun L a w hL hat hw => ?_) l.toArray.size _ a0 _ (by simp) ?_ ?_ ?_ ?_
  · have h1 := puts_at (vals := vals) (a0 := a0) hB l 0 a0 (fun i => by simp) (At.start.congr fun j o _ => by simp)
    have e : a = puts vals l 0 a0 := hat.unique (h1.congr fun j o hj => by
      have hjl : j < l.length := by simpa using (Array.getElem?_eq_some_iff.1 hj).1
      rw [hL j (by simpa using hjl)]
      simp [hjl])
    rw [e]
    exact hfin L w (fun j hj => hL j (by simpa using hj)) hw
  · exact Nat.le_trans (List.length_filter_le _ _) (by simp)
  · rw [hls]
    intro j o _ h
    cases h
  · rw [hls]
    exact At.start
  · rw [hls]
    exact h0
/-- Whether an operation waits for another one. -/
def depB (ops : Array Oper) : Nat → Nat → Nat → Bool
  | 0, _, _ => false
  | n + 1, j, k => match ops[j]? with
    | some o => o.after.any fun e => Region.binds .any e && (e.on == k || depB ops n e.on k)
    | none => false
theorem closed_dep (h : closedL ops L) : ∀ (n j k : Nat), depB ops n j k = true → L j = true → L k = true
  | 0, _, _, hd, _ => by cases hd
  | n + 1, j, k, hd, hl => by
    unfold depB at hd
    cases ho : ops[j]? with
    | none => rw [ho] at hd; cases hd
    | some o =>
      rw [ho] at hd
      obtain ⟨e, he, hb⟩ := Array.any_eq_true'.1 hd
      simp only [Bool.and_eq_true, Bool.or_eq_true, beq_iff_eq] at hb
      have h1 := h j o ho hl e he hb.1
      rcases hb.2 with h2 | h2
      · rw [← h2]; exact h1
      · exact closed_dep h n e.on k h2 h1
theorem not_yet (h : closedL ops L) (n j k : Nat) (hd : depB ops n j k = true) (hk : L k = false) : L j = false := by
  cases hj : L j with
  | false => rfl
  | true => rw [closed_dep h n j k hd hj] at hk; cases hk
theorem At.slot (h : At ops vals a0 L a) {i j k : Nat} {o : Oper} (ho : ops[j]? = some o) (hd : o.dst = some k) {oi : Oper} (_ : ops[i]? = some oi) (hdep : ∀ e ∈ oi.after, Region.binds .any e = true → L e.on = true) (he : (oi.after.any fun e => Region.binds .any e && e.on == j) = true) : a.tmps[k]?.getD undef = vals j := by
  have hl : L j = true := by
    obtain ⟨e, h1, h2⟩ := Array.any_eq_true'.1 he
    simp only [Bool.and_eq_true, beq_iff_eq] at h2
    rw [← h2.2]
    exact hdep e h1 h2.1
  rw [h.on j o k ho hl hd]
  rfl
theorem At.old (h : At ops vals a0 L a) {k : Nat} (hn : (ops.any fun o => o.dst == some k) = false) : a.tmps[k]?.getD undef = a0.tmps[k]?.getD undef := by
  rw [h.off k fun j o ho _ hd => ?_]
  have h1 : (ops.any fun o => o.dst == some k) = true := by
    rw [Array.any_eq_true']
    exact ⟨o, Array.mem_of_getElem? ho, by rw [hd]; simp⟩
  rw [hn] at h1
  cases h1
/-- A claim on each operation of a list, with its number. -/
def each (C : Nat → Oper → Prop) : List Oper → Nat → Prop
  | [], _ => True
  | o :: l, j => C j o ∧ each C l (j + 1)
theorem each_all {C : Nat → Oper → Prop} : ∀ (l : List Oper) (j : Nat), each C l j → ∀ i o, l[i]? = some o → C (j + i) o
  | [], _, _, i, o, h => by simp at h
  | q :: l, j, h, 0, o, ho => by
    simp at ho
    subst ho
    exact h.1
  | q :: l, j, h, i + 1, o, ho => by
    have := each_all l (j + 1) h.2 i o (by simpa using ho)
    rw [show j + (i + 1) = j + 1 + i by omega]
    exact this
theorem wp_region_each {P : Program} {id : Nat} {Q : Exit → Act → World → Prop} {w : World} {l : List Oper} (vals : Nat → Value) (Wd : (Nat → Bool) → World → Prop) (hm : P.follows .mixedOrders = true) (hB : okB l.toArray a0.tmps.size = true)
    (h0 : Wd (fun _ => false) { w with drawn := w.drawn + 1 })
    (hst : each (fun i o => ∀ L a w, L i = false → closedL l.toArray L → (∀ e ∈ o.after, Region.binds .any e = true → L e.on = true) → At l.toArray vals a0 L a → Wd L w → okStep P o a w (vals i) (fun w' => Wd (fun j => L j || j == i) w')) l 0)
    (hfin : ∀ L w, (∀ j, j < l.length → L j = true) → Wd L w → Q .normal (puts vals l 0 a0) w) : (Code.region id l.toArray true).wp P Q a0 w :=
  wp_region_det vals Wd hm hB h0 (fun i o ho => by have := each_all l 0 hst i o ho; rwa [Nat.zero_add] at this) hfin
end DetR
end Go.Proofs.Yteilglljigjefaa
