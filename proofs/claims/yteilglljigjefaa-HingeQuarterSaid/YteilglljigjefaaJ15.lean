/- The reference's closing, where no hinge is left. -/
import Derived.Test.YteilglljigjefaaJ01
import Derived.Test.YteilglljigjefaaJ14
import Derived.Test.YteilglljigjefaaJ11
import Derived.Lib.AppendZeros
namespace Go.Proofs.Yteilglljigjefaa
open Go.RowKit
/-- What the reference's closing answers. -/
def ClQ (w : World) (R : Option Addr) (rs : List Int) (o : Option (List Nat)) (e : Ending) (w' : World) : Prop :=
  ∃ v, e = .returned (.tuple #[v, .bool o.isSome]) ∧ Ext w w' ∧ ∀ r, o = some r → ∃ X x, v = .slice X (rs.length + r.length) x ∧ Ints w' X (rs ++ r.map fun (m : Nat) => (m : Int)) ∧ (X = R ∨ ∃ g, X = some ⟨g, 0, none⟩)
theorem gap0_yes {p : Ps} {a b : Sp} (h : (plc p a).x = b.x * p.d) : gap0 p a b = ((plc p a).y == b.y * p.d) := by
  unfold gap0 gapS
  rw [h]
  by_cases h2 : (plc p a).y = b.y * p.d
  · rw [h2]; simp [s0]
  · have : ¬ (plc p a).y - b.y * p.d = 0 := by omega
    simp [s0, this, h2]
theorem gap0_no {p : Ps} {a b : Sp} (h : ¬ (plc p a).x = b.x * p.d) : gap0 p a b = false := by
  unfold gap0 gapS
  have : ¬ (plc p a).x - b.x * p.d = 0 := by omega
  simp [s0, this]
set_option maxRecDepth 100000 in
set_option maxHeartbeats 8000000 in
theorem closing_zero (A : Option Addr) (c np : Nat) (B : Option Addr) (d nh : Nat) (a b : Sp) (R : Option Addr) (rc : Nat) (rs : List Int) (p : Ps) (w : World) (hp : PoseOk p 3) (ha : spotB a) (hb : spotB b) (hr : Ints w R rs) (hn : rs.length = nh) :
    Calls Try.prog 57 #[.agg #[.slice A np c, .slice B nh d], a.val, b.val, .slice R rs.length rc, p.val] w fun e w' => ClQ w R rs (clo a b [] p) e w' := by
  have hfin : ∀ w', Ext w w' → ClQ w R rs (clo a b [] p) (.returned (.tuple #[.slice R rs.length rc, .bool (gap0 p a b)])) w' := fun w' he => by
    have e : clo a b [] p = if gap0 p a b then some [] else none := by unfold clo; rfl
    refine ⟨.slice R rs.length rc, ?_, he, fun r hr2 => ?_⟩
    · rw [e]; cases gap0 p a b <;> rfl
    · rw [e] at hr2
      cases hg : gap0 p a b with
      | false => rw [hg] at hr2; simp at hr2
      | true =>
        rw [hg] at hr2
        simp only [if_true, Option.some.injEq] at hr2
        subst hr2
        exact ⟨_, _, rfl, by simpa using (show Ints w' R rs from Row.ext hr he), .inl rfl⟩
  have hat := fun w' => at_any p a w' (psOk hp) ha
  have hy := fun h => gap0_yes (p := p) (a := a) (b := b) h
  have hno := fun h => gap0_no (p := p) (a := a) (b := b) h
  obtain ⟨⟨q1, q2⟩, ⟨q3, q4⟩, ⟨q5, q6⟩, ⟨q7, q8⟩, ⟨q9, q10⟩⟩ := pose_small hp
  have e1 := prod_le (a := b.x) (s := p.d) (d := 50) (m := 15625) hb.1.1 hb.1.2 (by omega) (by omega)
  have e2 := prod_le (a := b.y) (s := p.d) (d := 50) (m := 15625) hb.2.1 hb.2.2 (by omega) (by omega)
  have E1 : IntKind.i64.wrap (b.x * p.d) = b.x * p.d := by rw [IntKind.wrap_i64]; omega
  have E2 : IntKind.i64.wrap (b.y * p.d) = b.y * p.d := by rw [IntKind.wrap_i64]; omega
  have Hfin := Lib.hid hfin
  have Hat := Lib.hid hat
  have Hy := Lib.hid hy
  have Hno := Lib.hid hno
  clear hfin hat hy hno e1 e2 q1 q2 q3 q4 q5 q6 q7 q8 q9 q10 hp ha hb hr
  generalize gap0 p a b = G at *
  generalize plc p a = z at *
  generalize rs.length = rn at *
  subst hn
  obtain ⟨zx, zy⟩ := z
  obtain ⟨ax, ay⟩ := a
  obtain ⟨bx, bY⟩ := b
  obtain ⟨P, Q, X, Y, D⟩ := p
  have kl : Blk ((((w.alloc (.cells #[.slice A np c, .slice B rn d] 25)).alloc (.cells #[vint ax, vint ay] 27)).alloc (.cells #[vint bx, vint bY] 27)).alloc (.cells #[vint P, vint Q, vint X, vint Y, vint D] 82)) w.heap.size [.slice A np c, .slice B rn d] := (Blk.new _ _).ext ((((Ext.refl _).alloc _).alloc _).alloc _)
  have ka : Blk ((((w.alloc (.cells #[.slice A np c, .slice B rn d] 25)).alloc (.cells #[vint ax, vint ay] 27)).alloc (.cells #[vint bx, vint bY] 27)).alloc (.cells #[vint P, vint Q, vint X, vint Y, vint D] 82)) (w.heap.size + 1) [vint ax, vint ay] := (Blk.new' (cs := #[vint ax, vint ay]) (by simp)).ext (((Ext.refl _).alloc _).alloc _)
  have kb : Blk ((((w.alloc (.cells #[.slice A np c, .slice B rn d] 25)).alloc (.cells #[vint ax, vint ay] 27)).alloc (.cells #[vint bx, vint bY] 27)).alloc (.cells #[vint P, vint Q, vint X, vint Y, vint D] 82)) (w.heap.size + 1 + 1) [vint bx, vint bY] := (Blk.new' (cs := #[vint bx, vint bY]) (by simp)).ext ((Ext.refl _).alloc _)
  have kp : Blk ((((w.alloc (.cells #[.slice A np c, .slice B rn d] 25)).alloc (.cells #[vint ax, vint ay] 27)).alloc (.cells #[vint bx, vint bY] 27)).alloc (.cells #[vint P, vint Q, vint X, vint Y, vint D] 82)) (w.heap.size + 1 + 1 + 1) [vint P, vint Q, vint X, vint Y, vint D] := Blk.new' (cs := #[vint P, vint Q, vint X, vint Y, vint D]) (by simp)
  have l1 := kl.at_ 1 rfl
  have a0 := ka.at_ 0 rfl
  have a1 := ka.at_ 1 rfl
  have b0 := kb.at_ 0 rfl
  have b1 := kb.at_ 1 rfl
  have p0 := kp.at_ 0 rfl
  have p1 := kp.at_ 1 rfl
  have p2 := kp.at_ 2 rfl
  have p3 := kp.at_ 3 rfl
  have p4 := kp.at_ 4 rfl
  have hx0 : Ext w ((((w.alloc (.cells #[.slice A np c, .slice B rn d] 25)).alloc (.cells #[vint ax, vint ay] 27)).alloc (.cells #[vint bx, vint bY] 27)).alloc (.cells #[vint P, vint Q, vint X, vint Y, vint D] 82)) := ((((Ext.refl _).alloc _).alloc _).alloc _).alloc _
  have Hx0 := Lib.hid hx0
  clear kl ka kb kp hx0
  go_enter Try.func57, Try.ntmps57
  go_wp2_with (go_at_call 47; refine (Hat.out _).mono ?_; rintro e w1 ⟨rfl, hx1⟩)
  have kz := Blk.new (W := w1) #[vint zx, vint zy] 27
  have hx2 : Ext w1 (w1.alloc (.cells #[vint zx, vint zy] 27)) := (Ext.refl _).alloc _
  generalize (w1.alloc (.cells #[vint zx, vint zy] 27)) = W1 at *
  have z0 := kz.at_ 0 rfl
  have z1 := kz.at_ 1 rfl
  have y0 : ∀ w', Ext W1 w' → _ := fun w' he => b0 w' ((hx1.trans hx2).trans he)
  have y1 : ∀ w', Ext W1 w' → _ := fun w' he => b1 w' ((hx1.trans hx2).trans he)
  have y4 : ∀ w', Ext W1 w' → _ := fun w' he => p4 w' ((hx1.trans hx2).trans he)
  have hxx := (Hx0.out.trans hx1).trans hx2
  clear b0 b1 p4 l1 a0 a1 p0 p1 p2 p3 kz hx1 hx2 Hat
  by_cases h : zx = bx * D
  · have d1 : (zx == bx * D) = true := by simp [h]
    have hG := Hy.out h
    rw [hG] at Hfin
    clear h hG Hy Hno
    go_wp2
    refine wp_region_calm 21 (fun _ _ _ _ => True) (fun _ _ _ _ _ _ h => h) (by kernel_rfl) (by kernel_rfl) ?_
    simp only [List.take_succ_cons, List.take_zero, List.drop_succ_cons, List.drop_zero]
    refine calm_quiet calm_mono_final 21 (by kernel_rfl) ?_
    simp only [List.take_succ_cons, List.take_zero, List.drop_succ_cons, List.drop_zero]
    repeat (go_big_quiet_step (fail))
    refine wpQuiet_nil ?_
    refine calm_nil fun w3 he3 _ => ?_
    have he3 : Ext W1 w3 := he3
    go_wp2
    go_ret2
    exact Hfin.out _ (hxx.trans he3)
  · have d1 : (zx == bx * D) = false := by simp [h]
    have hG := Hno.out h
    rw [hG] at Hfin
    clear h hG Hy Hno
    go_wp2
    refine wp_region_calm 21 (fun _ _ _ _ => True) (fun _ _ _ _ _ _ h => h) (by kernel_rfl) (by kernel_rfl) ?_
    simp only [List.take_succ_cons, List.take_zero, List.drop_succ_cons, List.drop_zero]
    refine calm_quiet calm_mono_final 10 (by kernel_rfl) ?_
    simp only [List.take_succ_cons, List.take_zero, List.drop_succ_cons, List.drop_zero]
    repeat (go_big_quiet_step (fail))
    refine wpQuiet_nil ?_
    refine calm_skip (by kernel_rfl) ?_
    simp only [Act.put, List.setIfInBounds_toArray, List.set_cons_succ, List.set_cons_zero]
    refine calm_skip (by kernel_rfl) ?_
    simp only [Act.put, List.setIfInBounds_toArray, List.set_cons_succ, List.set_cons_zero]
    refine calm_skip (by kernel_rfl) ?_
    simp only [Act.put, List.setIfInBounds_toArray, List.set_cons_succ, List.set_cons_zero]
    refine calm_skip (by kernel_rfl) ?_
    simp only [Act.put, List.setIfInBounds_toArray, List.set_cons_succ, List.set_cons_zero]
    refine calm_skip (by kernel_rfl) ?_
    simp only [Act.put, List.setIfInBounds_toArray, List.set_cons_succ, List.set_cons_zero]
    refine calm_skip (by kernel_rfl) ?_
    simp only [Act.put, List.setIfInBounds_toArray, List.set_cons_succ, List.set_cons_zero]
    refine calm_skip (by kernel_rfl) ?_
    simp only [Act.put, List.setIfInBounds_toArray, List.set_cons_succ, List.set_cons_zero]
    refine calm_skip (by kernel_rfl) ?_
    simp only [Act.put, List.setIfInBounds_toArray, List.set_cons_succ, List.set_cons_zero]
    refine calm_quiet calm_mono_final 3 (by kernel_rfl) ?_
    simp only [List.take_succ_cons, List.take_zero, List.drop_succ_cons, List.drop_zero]
    repeat (go_big_quiet_step (fail))
    refine wpQuiet_nil ?_
    refine calm_nil fun w3 he3 _ => ?_
    have he3 : Ext W1 w3 := he3
    go_wp2
    go_ret2
    exact Hfin.out _ (hxx.trans he3)
end Go.Proofs.Yteilglljigjefaa

/- The reference's closing, at a hinge. -/
namespace Go.Proofs.Yteilglljigjefaa
open Go.RowKit
theorem close_first {w0 w3 : World} {a b : Sp} {h : Hg} {T : List Hg} {p : Ps} {rs : List Int} {m : Nat} {r : List Nat} {R X : Option Addr} {x : Nat} (hm : m < 36) (hno : ∀ j, j < m → clo a b T (flw p h (trn j)) = none) (hr : clo a b T (flw p h (trn m)) = some r) (hx : Ext w0 w3)
    (hX : Ints w3 X (rs ++ (m : Int) :: r.map fun (k : Nat) => (k : Int))) (hg : ∃ g, X = some ⟨g, 0, none⟩) :
    ClQ w0 R rs (clo a b (h :: T) p) (.returned (.tuple #[.slice X (rs.length + (r.length + 1)) x, .bool true])) w3 := by
  rw [clo_first hm hno hr]
  refine ⟨_, rfl, hx, fun r' hr' => ?_⟩
  injection hr' with hr'
  subst hr'
  exact ⟨X, x, rfl, hX, .inr hg⟩
set_option maxRecDepth 100000 in
set_option maxHeartbeats 16000000 in
theorem closing_step (A : Option Addr) (c np : Nat) (B : Option Addr) (d : Nat) (hs : List Hg) (a b : Sp) (hh0 : ∀ h ∈ hs, hingeB h) (hnh : hs.length ≤ 3) (R : Option Addr) (rc : Nat) (rs : List Int) (p : Ps) (w : World) (hp : PoseOk p rs.length) (hB : HRow w B hs) (hr : Ints w R rs) (hn : rs.length < hs.length)
    (ih : ∀ (R' : Option Addr) (rc' : Nat) (rs' : List Int) (p' : Ps) (w' : World), rs'.length = rs.length + 1 → PoseOk p' (rs.length + 1) → Ext w w' → Ints w' R' rs' →
      Calls Try.prog 57 #[.agg #[.slice A np c, .slice B hs.length d], a.val, b.val, .slice R' (rs.length + 1) rc', p'.val] w' fun e w'' => ClQ w' R' rs' (clo a b (hs.drop (rs.length + 1)) p') e w'') :
    Calls Try.prog 57 #[.agg #[.slice A np c, .slice B hs.length d], a.val, b.val, .slice R rs.length rc, p.val] w fun e w' => ClQ w R rs (clo a b (hs.drop rs.length) p) e w' := by
  have hh := hh0 (hgA hs rs.length) (by rw [hgA_at hn]; exact List.getElem_mem hn)
  have hdrop : hs.drop rs.length = hgA hs rs.length :: hs.drop (rs.length + 1) := by rw [hgA_at hn]; exact List.drop_eq_getElem_cons hn
  have hok := fun (m : Nat) (hm : m < 36) => flw_ok hp hh hm
  have hfo := fun (m : Nat) (hm : m < 36) (w' : World) => next_any p ⟨(hgA hs rs.length).a, (hgA hs rs.length).b, (m : Int)⟩ rs.length w' hp (by omega) ⟨hh.1, hh.2.1, by show (0 : Int) ≤ m; omega, by show (m : Int) ≤ 35; omega⟩
  have hfo2 : ∀ (m : Nat) (hm : m < 36) (w' : World), Calls Try.prog 84 #[p.val, .agg #[vint (hgA hs rs.length).a.x, vint (hgA hs rs.length).a.y, vint (hgA hs rs.length).b.x, vint (hgA hs rs.length).b.y, vint m]] w' fun e w'' => e = .returned (flw p (hgA hs rs.length) (trn m)).val ∧ Ext w' w'' := fun m hm w' => hfo m hm w'
  obtain ⟨ad, rfl, c0, c1, c2, c3, c4⟩ := hB.at_ hn
  rw [hdrop]
  generalize hs.drop (rs.length + 1) = T at *
  clear hdrop hfo hB hh hh0
  generalize hgA hs rs.length = h at *
  have hall : ∀ (w' : World), Ext w w' → (∀ j, j < 36 → clo a b T (flw p h (trn j)) = none) → ClQ w R rs (clo a b (h :: T) p) (.returned (.tuple #[.slice none 0 0, .bool false])) w' := fun w' h1 h5 => by
    rw [clo_all h5]
    exact ⟨_, rfl, h1, fun r hr => by cases hr⟩
  have hone := fun (w' : World) (m : Nat) (r : List Nat) (X : Option Addr) (x : Nat) h1 h2 h3 h4 h5 h6 => close_first (w0 := w) (w3 := w') (a := a) (b := b) (h := h) (T := T) (p := p) (rs := rs) (m := m) (r := r) (R := R) (X := X) (x := x) h1 h2 h3 h4 h5 h6
  have hcp := fun (w2 : World) (he : Ext w w2) (base b : Nat) (hb : w2.heap[b]? = some (.cells #[] 3)) (hbb : base ≤ b) => copy_int (w := w2) (base := base) (c := rc) 30 hb hbb (xs := rs) (Row.ext hr he) (by omega)
  have Hok := Lib.hid hok
  have Hfo := Lib.hid hfo2
  have Hall := Lib.hid hall
  have Hone := Lib.hid hone
  have Hih := Lib.hid ih
  have Hcp := Lib.hid hcp
  clear hok hfo2 hall hone ih hcp hp hr
  obtain ⟨P, Q, X, Y, D⟩ := p
  obtain ⟨⟨hax, hay⟩, ⟨hbx, hby⟩, han⟩ := h
  obtain ⟨ax, ay⟩ := a
  obtain ⟨bx, bY⟩ := b
  generalize B0h : some ad = B at *
  have B0h := Lib.hid B0h
  generalize hs.length = nh at *
  have hnn : (rs.length : Int) < (nh : Int) := by omega
  have hn0 : ((rs.length : Int) == (nh : Int)) = false := by simp; omega
  have kl : Blk ((((w.alloc (.cells #[.slice A np c, .slice B nh d] 25)).alloc (.cells #[vint ax, vint ay] 27)).alloc (.cells #[vint bx, vint bY] 27)).alloc (.cells #[vint P, vint Q, vint X, vint Y, vint D] 82)) w.heap.size [.slice A np c, .slice B nh d] := (Blk.new _ _).ext ((((Ext.refl _).alloc _).alloc _).alloc _)
  have ka : Blk ((((w.alloc (.cells #[.slice A np c, .slice B nh d] 25)).alloc (.cells #[vint ax, vint ay] 27)).alloc (.cells #[vint bx, vint bY] 27)).alloc (.cells #[vint P, vint Q, vint X, vint Y, vint D] 82)) (w.heap.size + 1) [vint ax, vint ay] := (Blk.new' (cs := #[vint ax, vint ay]) (by simp)).ext (((Ext.refl _).alloc _).alloc _)
  have kb : Blk ((((w.alloc (.cells #[.slice A np c, .slice B nh d] 25)).alloc (.cells #[vint ax, vint ay] 27)).alloc (.cells #[vint bx, vint bY] 27)).alloc (.cells #[vint P, vint Q, vint X, vint Y, vint D] 82)) (w.heap.size + 1 + 1) [vint bx, vint bY] := (Blk.new' (cs := #[vint bx, vint bY]) (by simp)).ext ((Ext.refl _).alloc _)
  have kp : Blk ((((w.alloc (.cells #[.slice A np c, .slice B nh d] 25)).alloc (.cells #[vint ax, vint ay] 27)).alloc (.cells #[vint bx, vint bY] 27)).alloc (.cells #[vint P, vint Q, vint X, vint Y, vint D] 82)) (w.heap.size + 1 + 1 + 1) [vint P, vint Q, vint X, vint Y, vint D] := Blk.new' (cs := #[vint P, vint Q, vint X, vint Y, vint D]) (by simp)
  have l0 := kl.at_ 0 rfl
  have l1 := kl.at_ 1 rfl
  have a0 := ka.at_ 0 rfl
  have a1 := ka.at_ 1 rfl
  have b0 := kb.at_ 0 rfl
  have b1 := kb.at_ 1 rfl
  have p0 := kp.at_ 0 rfl
  have p1 := kp.at_ 1 rfl
  have p2 := kp.at_ 2 rfl
  have p3 := kp.at_ 3 rfl
  have p4 := kp.at_ 4 rfl
  have hx0 : Ext w ((((w.alloc (.cells #[.slice A np c, .slice B nh d] 25)).alloc (.cells #[vint ax, vint ay] 27)).alloc (.cells #[vint bx, vint bY] 27)).alloc (.cells #[vint P, vint Q, vint X, vint Y, vint D] 82)) := ((((Ext.refl _).alloc _).alloc _).alloc _).alloc _
  have Hx0 := Lib.hid hx0
  have c0 : ∀ w', Ext ((((w.alloc (.cells #[.slice A np c, .slice B nh d] 25)).alloc (.cells #[vint ax, vint ay] 27)).alloc (.cells #[vint bx, vint bY] 27)).alloc (.cells #[vint P, vint Q, vint X, vint Y, vint D] 82)) w' → _ := fun w' he => c0 w' (hx0.trans he)
  have c1 : ∀ w', Ext ((((w.alloc (.cells #[.slice A np c, .slice B nh d] 25)).alloc (.cells #[vint ax, vint ay] 27)).alloc (.cells #[vint bx, vint bY] 27)).alloc (.cells #[vint P, vint Q, vint X, vint Y, vint D] 82)) w' → _ := fun w' he => c1 w' (hx0.trans he)
  have c2 : ∀ w', Ext ((((w.alloc (.cells #[.slice A np c, .slice B nh d] 25)).alloc (.cells #[vint ax, vint ay] 27)).alloc (.cells #[vint bx, vint bY] 27)).alloc (.cells #[vint P, vint Q, vint X, vint Y, vint D] 82)) w' → _ := fun w' he => c2 w' (hx0.trans he)
  have c3 : ∀ w', Ext ((((w.alloc (.cells #[.slice A np c, .slice B nh d] 25)).alloc (.cells #[vint ax, vint ay] 27)).alloc (.cells #[vint bx, vint bY] 27)).alloc (.cells #[vint P, vint Q, vint X, vint Y, vint D] 82)) w' → _ := fun w' he => c3 w' (hx0.trans he)
  have c4 : ∀ w', Ext ((((w.alloc (.cells #[.slice A np c, .slice B nh d] 25)).alloc (.cells #[vint ax, vint ay] 27)).alloc (.cells #[vint bx, vint bY] 27)).alloc (.cells #[vint P, vint Q, vint X, vint Y, vint D] 82)) w' → _ := fun w' he => c4 w' (hx0.trans he)
  clear kl ka kb kp hx0
  have hbb := B0h.out
  clear B0h
  subst hbb
  go_enter Try.func57, Try.ntmps57
  go_wp2
  have hK0 : Whole (((((w.alloc (.cells #[.slice A np c, .slice (some ad) nh d] 25)).alloc (.cells #[vint ax, vint ay] 27)).alloc (.cells #[vint bx, vint bY] 27)).alloc (.cells #[vint P, vint Q, vint X, vint Y, vint D] 82)).alloc (.cells #[vint hax, vint hay, vint hbx, vint hby, vint han] 85)) (w.heap.size + 1 + 1 + 1 + 1) #[vint hax, vint hay, vint hbx, vint hby, vint han] 85 := Whole.new (by simp)
  have hle : ((((w.alloc (.cells #[.slice A np c, .slice (some ad) nh d] 25)).alloc (.cells #[vint ax, vint ay] 27)).alloc (.cells #[vint bx, vint bY] 27)).alloc (.cells #[vint P, vint Q, vint X, vint Y, vint D] 82)).heap.size ≤ w.heap.size + 1 + 1 + 1 + 1 := by simp
  generalize ((((w.alloc (.cells #[.slice A np c, .slice (some ad) nh d] 25)).alloc (.cells #[vint ax, vint ay] 27)).alloc (.cells #[vint bx, vint bY] 27)).alloc (.cells #[vint P, vint Q, vint X, vint Y, vint D] 82)) = W4 at *
  generalize w.heap.size + 1 + 1 + 1 + 1 = g13 at *
  have hx5 : Ext W4 (W4.alloc (.cells #[vint hax, vint hay, vint hbx, vint hby, vint han] 85)) := (Ext.refl _).alloc _
  generalize (W4.alloc (.cells #[vint hax, vint hay, vint hbx, vint hby, vint han] 85)) = W5 at *
  have Hle := Lib.hid hle
  clear c0 c1 c2 c3 c4 hle
  go_loopw [14] (fun i wr => ∃ m : Nat, m ≤ 36 ∧ i = .int .i64 m ∧ Ext W4 wr ∧ (∃ u, Whole wr g13 #[vint hax, vint hay, vint hbx, vint hby, u] 85) ∧ Hid (∀ j, j < m → clo ⟨ax, ay⟩ ⟨bx, bY⟩ T (flw ⟨P, Q, X, Y, D⟩ ⟨⟨hax, hay⟩, ⟨hbx, hby⟩, han⟩ (trn j)) = none)) (fun i _ => 36 - (intOf i).toNat)
  case atStart => exact ⟨0, by omega, rfl, hx5, ⟨_, hK0⟩, Lib.hid fun j hj => absurd hj (by omega)⟩
  case round =>
    clear hx5 hK0
    obtain ⟨m, hm, rfl, hxr, ⟨u, hK⟩, hno⟩ := hrel
    by_cases hlt : m < 36
    · have hlt2 : (m : Int) < 36 := by omega
      have hfo := Hfo.out m hlt
      have hok := Hok.out m hlt
      have hone := fun (w' : World) (r : List Nat) (X : Option Addr) (x : Nat) hx h7 h8 h9 => Hone.out w' m r X x hlt hno.out h7 hx h8 h9
      have hnext : clo ⟨ax, ay⟩ ⟨bx, bY⟩ T (flw ⟨P, Q, X, Y, D⟩ ⟨⟨hax, hay⟩, ⟨hbx, hby⟩, han⟩ (trn m)) = none → ∀ j, j < m + 1 → clo ⟨ax, ay⟩ ⟨bx, bY⟩ T (flw ⟨P, Q, X, Y, D⟩ ⟨⟨hax, hay⟩, ⟨hbx, hby⟩, han⟩ (trn j)) = none := fun h j hj => by
        rcases Nat.lt_succ_iff_lt_or_eq.1 hj with h1 | rfl
        · exact hno.out j h1
        · exact h
      have Hnext := Lib.hid hnext
      have Hone' := Lib.hid hone
      clear hnext hone Hfo Hok Hone hno
      generalize (flw ⟨P, Q, X, Y, D⟩ ⟨⟨hax, hay⟩, ⟨hbx, hby⟩, han⟩ (trn m)) = p2 at *
      obtain ⟨p2a, p2b, p2c, p2d, p2e⟩ := p2
      have Hfo := Lib.hid hfo
      have Hok := Lib.hid hok
      clear hfo hok
      have h4 := hK.cell 4 rfl
      have hf := hK.free 4
      have hx1 : Ext W4 (wr.setCell ⟨g13, 4, none⟩ (.int .i64 m)) := hxr.setCell Hle.out _
      have hK1 := hK.setCell 4 (.int .i64 m)
      have HX := Lib.hid (And.intro hx1 hK1)
      clear hxr hK hx1 hK1
      go_wp2
      obtain ⟨hx1, hK1⟩ := HX.out
      generalize (wr.setCell ⟨g13, 4, none⟩ (.int .i64 m)) = W1 at *
      clear h4 hf HX
      have l0 : ∀ w', Ext W1 w' → _ := fun w' he => l0 w' (hx1.trans he)
      have l1 : ∀ w', Ext W1 w' → _ := fun w' he => l1 w' (hx1.trans he)
      have a0 : ∀ w', Ext W1 w' → _ := fun w' he => a0 w' (hx1.trans he)
      have a1 : ∀ w', Ext W1 w' → _ := fun w' he => a1 w' (hx1.trans he)
      have b0 : ∀ w', Ext W1 w' → _ := fun w' he => b0 w' (hx1.trans he)
      have b1 : ∀ w', Ext W1 w' → _ := fun w' he => b1 w' (hx1.trans he)
      have p0 : ∀ w', Ext W1 w' → _ := fun w' he => p0 w' (hx1.trans he)
      have p1 : ∀ w', Ext W1 w' → _ := fun w' he => p1 w' (hx1.trans he)
      have p2 : ∀ w', Ext W1 w' → _ := fun w' he => p2 w' (hx1.trans he)
      have p3 : ∀ w', Ext W1 w' → _ := fun w' he => p3 w' (hx1.trans he)
      have p4 : ∀ w', Ext W1 w' → _ := fun w' he => p4 w' (hx1.trans he)
      have h0 : ∀ w', Ext W1 w' → _ := fun w' he => he.cell (hK1.cell 0 rfl)
      have h1 : ∀ w', Ext W1 w' → _ := fun w' he => he.cell (hK1.cell 1 rfl)
      have h2 : ∀ w', Ext W1 w' → _ := fun w' he => he.cell (hK1.cell 2 rfl)
      have h3 : ∀ w', Ext W1 w' → _ := fun w' he => he.cell (hK1.cell 3 rfl)
      have h4 : ∀ w', Ext W1 w' → _ := fun w' he => he.cell (hK1.cell 4 rfl)
      have hw1 : Ext w W1 := Hx0.out.trans hx1
      have H1 := Lib.hid (And.intro hx1 hK1)
      have Hw1 := Lib.hid hw1
      clear hx1 hK1 hw1
      generalize hr : clo ⟨ax, ay⟩ ⟨bx, bY⟩ T ⟨p2a, p2b, p2c, p2d, p2e⟩ = o at *
      have Hr := Lib.hid hr
      clear hr
      have hnr : rs.length ≤ 1000 := by omega
      refine Cg.wp_region_calm (p := griPre W1.heap.size rs m) (fr := (fun _ => false)) 17 (fun j _ v w => (j = 11 → v = .agg #[vint p2a, vint p2b, vint p2c, vint p2d, vint p2e]) ∧ (j = 12 → ∃ V, v = .tuple #[V, .bool o.isSome] ∧ ∀ r, o = some r → ∃ g x, V = .slice (some ⟨g, 0, none⟩) (rs.length + (r.length + 1)) x ∧ Ints w (some ⟨g, 0, none⟩) (rs ++ (m : Int) :: r.map fun (k : Nat) => (k : Int)))) (fun j args v w' w'' hR h => ⟨h.1, fun e => by
        obtain ⟨V, e1, e2⟩ := h.2 e
        exact ⟨V, e1, fun r hr => by
          obtain ⟨g, x, e3, e4⟩ := e2 r hr
          exact ⟨g, x, e3, GrI.keep hR g _ _ rfl e4⟩⟩⟩) (by kernel_rfl) (by kernel_rfl) ?_
      simp only [List.take_succ_cons, List.take_zero, List.drop_succ_cons, List.drop_zero]
      refine Cg.calm_quiet Cg.calm_mono_final W1 (fun _ h => GrI.ext h) 3 (by kernel_rfl) ?_
      simp only [List.take_succ_cons, List.take_zero, List.drop_succ_cons, List.drop_zero]
      repeat (go_big_quiet_step (fail))
      refine wpQuiet_nil ?_
      refine Cg.calm_value Cg.calm_mono_final (fun v w => ∃ b, v = .slice (some ⟨b, 0, none⟩) 0 0 ∧ W1.heap.size ≤ b ∧ w.heap[b]? = some (Obj.cells #[] 3)) (fun _ w' w'' hR ⟨b, e, hb, hh⟩ => ⟨b, e, hb, (show GrI _ _ _ w' w'' from hR).kept _ _ (by simp [keptI]) hh⟩) rfl (fun w' hR _ => ⟨.slice (some ⟨w'.heap.size, 0, none⟩) 0 0, w'.alloc (.cells #[] 3), by go_simp, GrI.of_ext ((Ext.refl w').alloc _) (GrI.ext hR).le, ⟨_, rfl, (GrI.ext hR).le, heap_alloc_new _ _⟩, fun hf => by cases hf⟩) ?_
      rintro v3 _ _ ⟨b3, rfl, _, _⟩ _
      simp only [Act.put, List.setIfInBounds_toArray, List.set_cons_succ, List.set_cons_zero]
      refine Cg.calm_quiet Cg.calm_mono_final W1 (fun _ h => GrI.ext h) 1 (by kernel_rfl) ?_
      simp only [List.take_succ_cons, List.take_zero, List.drop_succ_cons, List.drop_zero]
      repeat (go_big_quiet_step (fail))
      refine wpQuiet_nil ?_
      refine Cg.calm_value Cg.calm_mono_final (fun v w => w.ownsRow W1.heap.size 3 1 v rs.length (rs.map vint) ∧ (rs.length = 0 → ∃ g, v = .slice (some ⟨g, 0, none⟩) 0 0)) (fun _ w' w'' hR ⟨h1, h2⟩ => ⟨(show GrI _ _ _ w' w'' from hR).own _ _ _ (.inl ⟨rfl, rfl⟩) h1, h2⟩) rfl (fun w' hR hf => ?_) ?_
      · obtain ⟨b', eb, hbb, hb2⟩ := (hf 3 (by kernel_rfl)).2 rfl
        simp only [Value.slice.injEq, Option.some.injEq, Addr.mk.injEq, and_true] at eb
        subst eb
        obtain ⟨v', w'', hr, hx2, ho, h0⟩ := Hcp.out w' (Hw1.out.trans (GrI.ext hR)) W1.heap.size _ hb2 hbb
        exact ⟨_, w'', exec_append _ _ 30 rfl rfl rfl hr, GrI.of_ext hx2 (GrI.ext hR).le, ⟨ho, h0⟩, fun hf => by cases hf⟩
      rintro v5 _ _ ⟨_, _⟩ _
      simp only [Act.put, List.setIfInBounds_toArray, List.set_cons_succ, List.set_cons_zero]
      refine Cg.calm_quiet Cg.calm_mono_final W1 (fun _ h => GrI.ext h) 1 (by kernel_rfl) ?_
      simp only [List.take_succ_cons, List.take_zero, List.drop_succ_cons, List.drop_zero]
      repeat (go_big_quiet_step (fail))
      refine wpQuiet_nil ?_
      refine Cg.calm_value Cg.calm_mono_final (fun v w => ∃ b, v = .slice (some ⟨b, 0, none⟩) 1 1 ∧ w.heap[b]? = some (Obj.cells #[.int .i64 m] 3)) (fun _ w' w'' hR ⟨b, e, hh⟩ => ⟨b, e, (show GrI _ _ _ w' w'' from hR).kept _ _ (by simp [keptI]) hh⟩) rfl (fun w' hR _ => ⟨.slice (some ⟨w'.heap.size, 0, none⟩) 1 1, w'.alloc (.cells #[.int .i64 m] 3), by go_simp, GrI.of_ext ((Ext.refl w').alloc _) (GrI.ext hR).le, ⟨_, rfl, heap_alloc_new _ _⟩, fun hf => by cases hf⟩) ?_
      rintro v7 _ _ ⟨b7, rfl, _⟩ _
      simp only [Act.put, List.setIfInBounds_toArray, List.set_cons_succ, List.set_cons_zero]
      refine Cg.calm_value Cg.calm_mono_final (fun v w => w.ownsRow W1.heap.size 3 1 v (rs.length + 1) ((rs ++ [(m : Int)]).map vint)) (fun _ w' w'' hR h1 => (show GrI _ _ _ w' w'' from hR).own _ _ _ (.inr ⟨rfl, rfl⟩) h1) rfl (fun w' hR hf => ?_) ?_
      · obtain ⟨ho, h0⟩ := (hf 5 (by kernel_rfl)).1.2 rfl
        obtain ⟨b', eb, hb7⟩ := (hf 7 (by kernel_rfl)).2 rfl
        simp only [Value.slice.injEq, Option.some.injEq, Addr.mk.injEq, and_true] at eb
        subst eb
        obtain ⟨v', w'', hr, ho2, hR2⟩ := app_int (y := (m : Int)) (c := 1) 30 ho h0 hb7 hnr (GrI.ext hR).le
        exact ⟨_, w'', exec_append _ _ 30 rfl rfl rfl hr, hR2, ho2, fun hf => by cases hf⟩
      rintro v8 _ _ hov _
      obtain ⟨h8, c8, rfl⟩ : ∃ h8 c8, v8 = .slice (some ⟨h8, 0, none⟩) (rs.length + 1) c8 := by
        rcases hov.2 with ⟨_, h⟩ | ⟨g, cap, cur, e, _⟩
        · omega
        · exact ⟨g, cap, e⟩
      clear hov
      simp only [Act.put, List.setIfInBounds_toArray, List.set_cons_succ, List.set_cons_zero]
      refine Cg.calm_quiet Cg.calm_mono_final W1 (fun _ h => GrI.ext h) 2 (by kernel_rfl) ?_
      simp only [List.take_succ_cons, List.take_zero, List.drop_succ_cons, List.drop_zero]
      repeat (go_big_quiet_step (fail))
      refine wpQuiet_nil ?_
      refine Cg.calm_call Cg.calm_mono_final 84 #[.agg #[vint P, vint Q, vint X, vint Y, vint D], .agg #[vint hax, vint hay, vint hbx, vint hby, vint m]] rfl (fun w => ?_) (fun w' hR hF => ?_) ?_
      · go_simp
      · exact (Hfo.out w').mono fun e w'' ⟨he', hx⟩ => ⟨_, he', GrI.of_ext hx (GrI.ext hR).le, ⟨fun _ => rfl, fun h => by cases h⟩, fun hf => by cases hf⟩
      rintro _ _ _ ⟨h, _⟩ _
      cases h rfl
      simp only [Act.put, List.setIfInBounds_toArray, List.set_cons_succ, List.set_cons_zero]
      refine Cg.calm_call Cg.calm_mono_final 57 #[.agg #[.slice A np c, .slice (some ad) nh d], .agg #[vint ax, vint ay], .agg #[vint bx, vint bY], .slice (some ⟨h8, 0, none⟩) (rs.length + 1) c8, .agg #[vint p2a, vint p2b, vint p2c, vint p2d, vint p2e]] rfl (fun w => ?_) (fun w' hR hF => ?_) ?_
      · go_simp
      · have ho := (hF 8 (by kernel_rfl)).1.2 rfl
        have hi : Ints w' (some ⟨h8, 0, none⟩) (rs ++ [(m : Int)]) := Own.row (w1 := W1) (m := rs.length + 1) (c := c8) (n := rs.length + 1) ⟨GrI.ext hR, ho⟩
        have h := Hih.out (some ⟨h8, 0, none⟩) c8 (rs ++ [(m : Int)]) ⟨p2a, p2b, p2c, p2d, p2e⟩ w' (by simp) Hok.out (Hw1.out.trans (GrI.ext hR)) hi
        rw [Hr.out] at h
        refine h.mono fun e w'' ⟨V, he', hx, hv⟩ => ⟨_, he', GrI.of_ext hx (GrI.ext hR).le, ⟨fun h => (by cases h), fun _ => ⟨V, rfl, fun r hr => ?_⟩⟩, fun hf => by cases hf⟩
        obtain ⟨Z, z, e1, e2, e3⟩ := hv r hr
        obtain ⟨g, rfl⟩ : ∃ g, Z = some ⟨g, 0, none⟩ := by
          rcases e3 with rfl | h
          · exact ⟨_, rfl⟩
          · exact h
        exact ⟨g, z, by rw [e1, List.length_append, List.length_singleton, Nat.add_assoc, Nat.add_comm 1], by simpa using e2⟩
      rintro _ _ _ ⟨_, hV⟩ _
      obtain ⟨V, rfl, _⟩ := hV rfl
      simp only [Act.put, List.setIfInBounds_toArray, List.set_cons_succ, List.set_cons_zero]
      refine Cg.calm_quiet Cg.calm_mono_final W1 (fun _ h => GrI.ext h) 4 (by kernel_rfl) ?_
      simp only [List.take_succ_cons, List.take_zero, List.drop_succ_cons, List.drop_zero]
      repeat (go_big_quiet_step (fail))
      refine wpQuiet_nil ?_
      refine Cg.calm_nil fun w3 hx3 hF => ?_
      have hx3 : Ext W1 w3 := GrI.ext hx3
      obtain ⟨V', eV, hV⟩ := ((hF.1 12).2 rfl).2 rfl
      clear hF
      obtain ⟨hx1, hK1⟩ := H1.out
      have hx4 := hx1.trans hx3
      have hK3 := hK1.ext hx3
      have hw3 := Hw1.out.trans hx3
      have H3 := Lib.hid (And.intro hx4 (And.intro hK3 hw3))
      clear hx1 hK1 hx4 hK3 hw3 H1 Hw1 l0 l1 a0 a1 b0 b1 p0 p1 p2 p3 p4 h0 h1 h2 h3 h4 Hfo Hok Hih Hcp
      cases o with
      | none =>
        clear hV eV
        simp only [Option.isSome_none]
        go_wp2
        obtain ⟨hx4, hK3, _⟩ := H3.out
        go_roundw
        case rel => exact ⟨m + 1, by omega, by go_num, hx4, ⟨_, hK3⟩, Lib.hid (Hnext.out rfl)⟩
        case measure => simp [intOf]; omega
      | some r =>
        obtain ⟨g, x, e1, e2⟩ := hV r rfl
        obtain rfl : V = V' := by simpa using eV
        subst e1
        clear hV eV
        simp only [Option.isSome_some]
        have E2 := Lib.hid e2
        clear e2
        go_wp2
        go_ret2
        exact Hone'.out _ r _ _ H3.out.2.2 rfl E2.out ⟨_, rfl⟩
    · obtain rfl : m = 36 := by omega
      have hxx := Hx0.out.trans hxr
      clear hxr hK Hfo Hok Hone Hih Hcp
      go_wp2
      go_ret2
      exact Hall.out _ hxx hno.out
end Go.Proofs.Yteilglljigjefaa

/- Linkages that are not great; that are the same; in new memory. -/
namespace Go.Proofs.Yteilglljigjefaa
open Go.RowKit
def greatP (ps : List (List Sp)) (hs : List Hg) : Prop := 10 < ps.length ∨ 10 < hs.length ∨ ∃ k, k < ps.length ∧ 20 < (pnA ps k).length
noncomputable def greatB (ps : List (List Sp)) (hs : List Hg) : Bool := @decide (greatP ps hs) (Classical.propDecidable _)
theorem greatB_yes {ps : List (List Sp)} {hs : List Hg} (h : greatP ps hs) : true = greatB ps hs := by simp [greatB, h]
theorem greatB_no {ps : List (List Sp)} {hs : List Hg} (h : ¬ greatP ps hs) : false = greatB ps hs := by simp [greatB, h]
theorem greatB_iff {ps : List (List Sp)} {hs : List Hg} : greatB ps hs = true ↔ greatP ps hs := by simp [greatB]
set_option maxRecDepth 100000 in
set_option maxHeartbeats 4000000 in
theorem great_any (A : Option Addr) (c : Nat) (ps : List (List Sp)) (B : Option Addr) (d : Nat) (hs : List Hg) (w : World) (hA : PnRow w A ps) :
    Calls Try.prog 17 #[.agg #[.slice A ps.length c, .slice B hs.length d]] w fun e w' => e = .returned (.bool (greatB ps hs)) ∧ Ext w w' := by
  have yes1 : 10 < ps.length → true = greatB ps hs := fun h => greatB_yes (.inl h)
  have yes2 : 10 < hs.length → true = greatB ps hs := fun h => greatB_yes (.inr (.inl h))
  have yes3 : ∀ k, k < ps.length → 20 < (pnA ps k).length → true = greatB ps hs := fun k hk h => greatB_yes (.inr (.inr ⟨k, hk, h⟩))
  have no : ¬ 10 < ps.length → ¬ 10 < hs.length → (∀ k, k < ps.length → (pnA ps k).length ≤ 20) → false = greatB ps hs := fun h1 h2 h3 => greatB_no fun h => by
    rcases h with h | h | ⟨k, hk, h⟩
    · exact h1 h
    · exact h2 h
    · have := h3 k hk; omega
  have hpa := fun k (hk : k < ps.length) => hA.at_ hk
  have Yes1 := Lib.hid yes1
  have Yes2 := Lib.hid yes2
  have Yes3 := Lib.hid yes3
  have No := Lib.hid no
  have Hpa := Lib.hid hpa
  clear yes1 yes2 yes3 no hpa hA
  generalize greatB ps hs = E at *
  generalize ps.length = np at *
  generalize hs.length = nh at *
  have kb : Blk (w.alloc (.cells #[.slice A np c, .slice B nh d] 25)) w.heap.size [.slice A np c, .slice B nh d] := Blk.new _ _
  have b0 := kb.at_ 0 rfl
  have b1 := kb.at_ 1 rfl
  have hx0 : Ext w (w.alloc (.cells #[.slice A np c, .slice B nh d] 25)) := (Ext.refl _).alloc _
  have B0 := Lib.hid b0
  have Hx0 := Lib.hid hx0
  clear kb hx0
  by_cases h1 : 10 < np
  · have hy := Yes1.out h1
    have Hy := Lib.hid hy
    have d1 : decide ((10 : Int) < (np : Int)) = true := by simp; omega
    clear hy
    go_enter Try.func17, Try.ntmps17
    go_wp2
    go_ret
    exact ⟨ret_b Hy.out, Hx0.out⟩
  · have d1 : decide ((10 : Int) < (np : Int)) = false := by simp; omega
    by_cases h2 : 10 < nh
    · have hy := Yes2.out h2
      have Hy := Lib.hid hy
      have d2 : decide ((10 : Int) < (nh : Int)) = true := by simp; omega
      clear hy
      go_enter Try.func17, Try.ntmps17
      go_wp2
      go_ret
      exact ⟨ret_b Hy.out, Hx0.out⟩
    · have hn := No.out h1 h2
      have Hn := Lib.hid hn
      have d2 : decide ((10 : Int) < (nh : Int)) = false := by simp; omega
      clear hn No Yes1 Yes2
      go_enter Try.func17, Try.ntmps17
      go_wp2
      generalize (w.alloc (.cells #[.slice A np c, .slice B nh d] 25)) = w0 at B0 Hx0 b0 b1 ⊢
      clear b0 b1
      go_loopw [3] (fun i wr => ∃ k : Nat, k ≤ np ∧ i = .int .i64 k ∧ Ext w0 wr ∧ ∀ j, j < k → (pnA ps j).length ≤ 20) (fun i _ => np - (intOf i).toNat)
      case atStart => exact ⟨0, by omega, rfl, Ext.refl _, fun i h => absurd h (by omega)⟩
      case round =>
        obtain ⟨k, hk, rfl, hex, hall⟩ := hrel
        have Hall := Lib.hid hall
        clear hall
        have p0 : ∀ w', Ext wr w' → _ := fun w' he => B0.out w' (hex.trans he)
        by_cases hlt : k < np
        · obtain ⟨ad, B', c', rfl, r0, _⟩ := Hpa.out k hlt
          have hxr := Hx0.out.trans hex
          have q0 : ∀ w', Ext wr w' → _ := fun w' he => r0 w' (hxr.trans he)
          have hy := Yes3.out k hlt
          have hnx : (pnA ps k).length ≤ 20 → ∀ j, j < k + 1 → (pnA ps j).length ≤ 20 := fun h j hj => by
            by_cases e : j = k
            · subst e; exact h
            · exact Hall.out j (by omega)
          have Hy := Lib.hid hy
          have Hnx := Lib.hid hnx
          clear r0 hy hnx Hpa Yes3
          generalize (pnA ps k).length = m at *
          by_cases hm : 20 < m
          · have hy := Hy.out hm
            have Hy' := Lib.hid hy
            have d4 : decide ((20 : Int) < (m : Int)) = true := by simp; omega
            clear hy Hnx Hy
            go_wp2
            go_ret
            exact ⟨ret_b Hy'.out, hxr⟩
          · have hy := Hnx.out (by omega)
            have Hy' := Lib.hid hy
            have d4 : decide ((20 : Int) < (m : Int)) = false := by simp; omega
            clear hy Hnx Hy
            go_wp2
            go_roundw
            case rel => exact ⟨k + 1, by omega, by go_num, hex, Hy'.out⟩
            case measure => simp [intOf]; omega
        · obtain rfl : np = k := by omega
          go_wp2
          go_ret
          exact ⟨ret_b (Hn.out Hall.out), Hx0.out.trans hex⟩
/-- What is not great, in memory. -/
theorem lk_of {w : World} {A : Option Addr} {ps : List (List Sp)} {B : Option Addr} {hs : List Hg} (hA : PnRow w A ps) (hB : HRow w B hs) (h : ¬ greatP ps hs) : Lk w A ps B hs := by
  unfold greatP at h
  refine ⟨hA, hB, by omega, by omega, fun k hk => ?_⟩
  have : ¬ 20 < (pnA ps k).length := fun h' => h (.inr (.inr ⟨k, hk, h'⟩))
  omega
theorem neq_Hg (a0 a1 a2 a3 a4 : Int) (w : World) : (binOp .neq 85 (.agg #[.int .i64 a0, .int .i64 a1, .int .i64 a2, .int .i64 a3, .int .i64 a4]) (.agg #[.int .i64 a0, .int .i64 a1, .int .i64 a2, .int .i64 a3, .int .i64 a4])).run Try.prog w = .ok (.bool false) w := by
  simp [go_sem]
set_option maxRecDepth 100000 in
set_option maxHeartbeats 4000000 in
theorem same_link (A A2 : Option Addr) (c c2 : Nat) (ps : List (List Sp)) (B B2 : Option Addr) (d d2 : Nat) (hs : List Hg) (w : World) (h1 : Lk w A ps B hs) (h2 : Lk w A2 ps B2 hs) :
    Calls Try.prog 22 #[.agg #[.slice A ps.length c, .slice B hs.length d], .agg #[.slice A2 ps.length c2, .slice B2 hs.length d2]] w fun e w' => e = .returned (.bool true) ∧ Ext w w' := by
  have hpa := fun k (hk : k < ps.length) => h1.hA.at_ hk
  have hpb := fun k (hk : k < ps.length) => h2.hA.at_ hk
  have hha := fun k (hk : k < hs.length) => h1.hB.at_ hk
  have hhb := fun k (hk : k < hs.length) => h2.hB.at_ hk
  have hsp := fun (k : Nat) (hk : k < ps.length) (X Y : Option Addr) (c d : Nat) (w' : World) (hX : SRow w' X (pnA ps k)) (hY : SRow w' Y (pnA ps k)) => same_spots X Y c d (pnA ps k) w' hX hY (by have := h1.hp k hk; omega)
  have np0 := h1.np
  have nh0 := h1.nh
  have Hpa := Lib.hid hpa
  have Hpb := Lib.hid hpb
  have Hha := Lib.hid hha
  have Hhb := Lib.hid hhb
  have Hsp := Lib.hid hsp
  clear hpa hpb hha hhb hsp h1 h2
  generalize ps.length = np at *
  generalize hs.length = nh at *
  have kl : Blk ((w.alloc (.cells #[.slice A np c, .slice B nh d] 25)).alloc (.cells #[.slice A2 np c2, .slice B2 nh d2] 25)) w.heap.size [.slice A np c, .slice B nh d] := (Blk.new _ _).ext ((Ext.refl _).alloc _)
  have kk : Blk ((w.alloc (.cells #[.slice A np c, .slice B nh d] 25)).alloc (.cells #[.slice A2 np c2, .slice B2 nh d2] 25)) (w.heap.size + 1) [.slice A2 np c2, .slice B2 nh d2] := Blk.new' (cs := #[.slice A2 np c2, .slice B2 nh d2]) (by simp)
  have a0 := kl.at_ 0 rfl
  have a1 := kl.at_ 1 rfl
  have b0 := kk.at_ 0 rfl
  have b1 := kk.at_ 1 rfl
  have hx0 : Ext w ((w.alloc (.cells #[.slice A np c, .slice B nh d] 25)).alloc (.cells #[.slice A2 np c2, .slice B2 nh d2] 25)) := ((Ext.refl _).alloc _).alloc _
  have A0 := Lib.hid a0
  have A1 := Lib.hid a1
  have B0 := Lib.hid b0
  have B1 := Lib.hid b1
  have Hx0 := Lib.hid hx0
  clear kl kk hx0
  go_enter Try.func22, Try.ntmps22
  go_wp2
  generalize ((w.alloc (.cells #[.slice A np c, .slice B nh d] 25)).alloc (.cells #[.slice A2 np c2, .slice B2 nh d2] 25)) = w0 at *
  clear a0 a1 b0 b1
  go_loopw [5] (fun i wr => ∃ k : Nat, k ≤ np ∧ i = .int .i64 k ∧ Ext w0 wr) (fun i _ => np - (intOf i).toNat)
  case atStart => exact ⟨0, by omega, rfl, Ext.refl _⟩
  case round =>
    obtain ⟨k, hk, rfl, hex⟩ := hrel
    have p0 : ∀ w', Ext wr w' → _ := fun w' he => A0.out w' (hex.trans he)
    have p1 : ∀ w', Ext wr w' → _ := fun w' he => B0.out w' (hex.trans he)
    by_cases hlt : k < np
    · obtain ⟨ad, X, cx, rfl, x0, hX⟩ := Hpa.out k hlt
      obtain ⟨bd, Y, cy, rfl, y0, hY⟩ := Hpb.out k hlt
      have hxr := Hx0.out.trans hex
      have u0 : ∀ w', Ext wr w' → _ := fun w' he => x0 w' (hxr.trans he)
      have v0 : ∀ w', Ext wr w' → _ := fun w' he => y0 w' (hxr.trans he)
      have hc := fun (w' : World) (he : Ext wr w') => Hsp.out k hlt X Y cx cy w' (hX.ext (hxr.trans he)) (hY.ext (hxr.trans he))
      have Hc := Lib.hid hc
      have hkn : (k : Int) < (np : Int) := by omega
      clear x0 y0 hX hY hc Hpa Hpb Hha Hhb Hsp
      generalize (pnA ps k).length = m at *
      go_wp2
      refine wp_region_calm 12 (fun j _ v _ => j = 10 → v = .bool true) (fun _ _ _ _ _ _ h => h) (by kernel_rfl) (by kernel_rfl) ?_
      simp only [List.take_succ_cons, List.take_zero, List.drop_succ_cons, List.drop_zero]
      refine calm_quiet calm_mono_final 10 (by kernel_rfl) ?_
      simp only [List.take_succ_cons, List.take_zero, List.drop_succ_cons, List.drop_zero]
      repeat (go_big_quiet_step (fail))
      refine wpQuiet_nil ?_
      refine calm_call calm_mono_final 34 #[.slice X m cx, .slice Y m cy] rfl (fun w => ?_) (fun w he hF => ?_) ?_
      · go_simp
      · exact (Hc.out w he).mono fun e w'' ⟨he', hx⟩ => ⟨_, he', hx, fun _ => rfl⟩
      rintro _ _ _ h
      cases h rfl
      simp only [Act.put, List.setIfInBounds_toArray, List.set_cons_succ, List.set_cons_zero]
      refine calm_quiet calm_mono_final 1 (by kernel_rfl) ?_
      simp only [List.take_succ_cons, List.take_zero, List.drop_succ_cons, List.drop_zero]
      repeat (go_big_quiet_step (fail))
      refine wpQuiet_nil ?_
      refine calm_nil fun w3 he3 _ => ?_
      go_wp2
      go_roundw
      case rel => exact ⟨k + 1, by omega, by go_num, hex.trans he3⟩
      case measure => simp [intOf]; omega
    · obtain rfl : np = k := by omega
      clear Hpa Hpb Hsp
      go_wp2
      clear p0 p1
      obtain ⟨wo, rfl⟩ : ∃ wo : World, wo = wr := ⟨_, rfl⟩
      go_loopw [6] (fun i wr => ∃ k : Nat, k ≤ nh ∧ i = .int .i64 k ∧ Ext w0 wr) (fun i _ => nh - (intOf i).toNat)
      case atStart => exact ⟨0, by omega, rfl, hex⟩
      case round =>
        obtain ⟨k, hk, rfl, hex⟩ := hrel
        have p0 : ∀ w', Ext wr w' → _ := fun w' he => A1.out w' (hex.trans he)
        have p1 : ∀ w', Ext wr w' → _ := fun w' he => B1.out w' (hex.trans he)
        by_cases hlt : k < nh
        · obtain ⟨ad, rfl, x0, x1, x2, x3, x4⟩ := Hha.out k hlt
          obtain ⟨bd, rfl, y0, y1, y2, y3, y4⟩ := Hhb.out k hlt
          have hxr := Hx0.out.trans hex
          have u0 : ∀ w', Ext wr w' → _ := fun w' he => x0 w' (hxr.trans he)
          have v0 : ∀ w', Ext wr w' → _ := fun w' he => y0 w' (hxr.trans he)
          have u1 : ∀ w', Ext wr w' → _ := fun w' he => x1 w' (hxr.trans he)
          have v1 : ∀ w', Ext wr w' → _ := fun w' he => y1 w' (hxr.trans he)
          have u2 : ∀ w', Ext wr w' → _ := fun w' he => x2 w' (hxr.trans he)
          have v2 : ∀ w', Ext wr w' → _ := fun w' he => y2 w' (hxr.trans he)
          have u3 : ∀ w', Ext wr w' → _ := fun w' he => x3 w' (hxr.trans he)
          have v3 : ∀ w', Ext wr w' → _ := fun w' he => y3 w' (hxr.trans he)
          have u4 : ∀ w', Ext wr w' → _ := fun w' he => x4 w' (hxr.trans he)
          have v4 : ∀ w', Ext wr w' → _ := fun w' he => y4 w' (hxr.trans he)
          clear x0 x1 x2 x3 x4 y0 y1 y2 y3 y4 Hha Hhb
          generalize hgA hs k = h at *
          obtain ⟨⟨a0, a1⟩, ⟨a2, a3⟩, a4⟩ := h
          simp only at u0 u1 u2 u3 u4 v0 v1 v2 v3 v4
          have hne := neq_Hg a0 a1 a2 a3 a4
          have hkn : (k : Int) < (nh : Int) := by omega
          go_wp2
          refine wp_region_calm 11 (fun _ _ _ _ => True) (fun _ _ _ _ _ _ h => h) (by kernel_rfl) (by kernel_rfl) ?_
          simp only [List.take_succ_cons, List.take_zero, List.drop_succ_cons, List.drop_zero]
          refine calm_quiet calm_mono_final 11 (by kernel_rfl) ?_
          simp only [List.take_succ_cons, List.take_zero, List.drop_succ_cons, List.drop_zero]
          repeat (go_big_quiet_step (fail))
          refine wpQuiet_nil ?_
          refine calm_nil fun w3 he3 _ => ?_
          go_wp2
          go_roundw
          case rel => exact ⟨k + 1, by omega, by go_num, hex.trans he3⟩
          case measure => simp [intOf]; omega
        · obtain rfl : nh = k := by omega
          go_wp2
          go_ret
          exact ⟨rfl, Hx0.out.trans hex⟩
end Go.Proofs.Yteilglljigjefaa

/- A linkage in new memory. -/
namespace Go.Proofs.Yteilglljigjefaa
open Go.RowKit
theorem panel_elem : ElemInfo 40 (.slice none 0 0) 1 24 := ⟨info_parts (by kernel_rfl), rfl, by decide⟩
theorem hinge_elem : ElemInfo 85 (.agg #[.int .i64 0, .int .i64 0, .int .i64 0, .int .i64 0, .int .i64 0]) 5 40 := ⟨info_parts (by kernel_rfl), rfl, by decide⟩
section
variable {w1 w w' : World} {e : TypeId} {size n : Nat} {v : Value} {xs : List Value}
/-- Growth elsewhere. -/
theorem Own.grown {row : Option Nat} (h : Own w1 w e size v n xs) (hg : w.grownBy w' row) (hx : Ext w1 w') (hne : ∀ g, v.ownBlock = some g → some g ≠ row) : Own w1 w' e size v n xs := by
  refine ⟨hx, h.2.1, ?_⟩
  rcases h.2.2 with h1 | ⟨g, cap, cur, rfl, hb, hh, r⟩
  · exact .inl h1
  · exact .inr ⟨g, cap, cur, rfl, hb, (hg.block g (Array.getElem?_eq_some_iff.1 hh).1 (hne g rfl)).trans hh, r⟩
theorem Whole.grown {row : Option Nat} {g : Nat} {cs : Array Value} {t : TypeId} (h : Whole w g cs t) (hg : w.grownBy w' row) (hne : some g ≠ row) : Whole w' g cs t := ⟨(hg.block g (Array.getElem?_eq_some_iff.1 h.h).1 hne).trans h.h⟩
theorem Own.ne_whole {g : Nat} {cs : Array Value} {t : TypeId} (h : Own w1 w e size v n xs) (hg : Whole w g cs t) (ht : t ≠ e) : v.ownBlock ≠ some g := h.ne_block hg.h ht
theorem Own.lt (h : Own w1 w e size v n xs) {g : Nat} (hg : v.ownBlock = some g) : w1.heap.size ≤ g ∧ g < w.heap.size := h.2.lt g hg
theorem Own.ne_own {e2 : TypeId} {size2 n2 : Nat} {v2 : Value} {xs2 : List Value} {w2 : World} (h : Own w1 w e size v n xs) (h2 : Own w2 w e2 size2 v2 n2 xs2) (ht : e2 ≠ e) {g : Nat} (hg : v2.ownBlock = some g) : v.ownBlock ≠ some g := by
  rcases h2.2.2 with ⟨rfl, _⟩ | ⟨g', cap, cur, rfl, _, hh, _⟩
  · simp [Value.ownBlock] at hg
  · have e3 : g' = g := by simpa [Value.ownBlock] using hg
    subst e3
    exact h.ne_block hh ht
end
/-- Panels, each in its own memory. -/
structure Pans (w1 w : World) (vs : List Value) (ps : List (List Sp)) : Prop where
  len : vs.length = ps.length
  own : ∀ k, k < ps.length → Own w1 w 27 2 (vs.getD k undef) (pnA ps k).length ((pnA ps k).map Sp.cells).flatten
  apart : ∀ i k, i < k → k < ps.length → ∀ g, (vs.getD i undef).ownBlock = some g → (vs.getD k undef).ownBlock ≠ some g
section
variable {w1 w w' : World} {vs : List Value} {ps : List (List Sp)}
theorem Pans.later (h : Pans w1 w vs ps) (he : Ext w w') : Pans w1 w' vs ps := ⟨h.len, fun k hk => (h.own k hk).later he, h.apart⟩
theorem Pans.grown {row : Option Nat} (h : Pans w1 w vs ps) (hg : w.grownBy w' row) (hx : Ext w1 w') (hne : ∀ k, k < ps.length → ∀ g, (vs.getD k undef).ownBlock = some g → some g ≠ row) : Pans w1 w' vs ps := ⟨h.len, fun k hk => (h.own k hk).grown hg hx (hne k hk), h.apart⟩
theorem Pans.other {p : Addr} (h : Pans w1 w vs ps) (hp : w1.heap.size ≤ p.block) (hne : ∀ k, k < ps.length → (vs.getD k undef).ownBlock ≠ some p.block) (u : Value) : Pans w1 (w.setCell p u) vs ps := ⟨h.len, fun k hk => (h.own k hk).other hp (hne k hk) u, h.apart⟩
theorem Pans.nil (w1 w : World) : Pans w1 w [] [] := ⟨rfl, fun k hk => by simp at hk, fun i k _ hk => by simp at hk⟩
theorem Pans.since {w0 : World} (h : Pans w1 w vs ps) (he : Ext w0 w1) : Pans w0 w vs ps := ⟨h.len, fun k hk => (h.own k hk).since he, h.apart⟩
theorem Pans.snoc {wm : World} {x : Value} {p : List Sp} (h : Pans w1 w vs ps) (hm : Pans w1 wm vs ps) (hx : Ext w1 wm) (ho : Own wm w 27 2 x p.length (p.map Sp.cells).flatten) : Pans w1 w (vs ++ [x]) (ps ++ [p]) := by
  have hl := h.len
  have e1 : ∀ k, k < ps.length → (vs ++ [x]).getD k undef = vs.getD k undef := fun k hk => by simp [List.getD, List.getElem?_append_left (show k < vs.length by omega)]
  have e2 : (vs ++ [x]).getD ps.length undef = x := by simp [List.getD, ← hl]
  have e3 : ∀ k, k < ps.length → pnA (ps ++ [p]) k = pnA ps k := fun k hk => by simp [pnA, List.getD, List.getElem?_append_left hk]
  have e4 : pnA (ps ++ [p]) ps.length = p := by simp [pnA]
  refine ⟨by simp [hl], fun k hk => ?_, fun i k hik hk g hg => ?_⟩
  · by_cases hkl : k < ps.length
    · rw [e1 k hkl, e3 k hkl]; exact h.own k hkl
    · have : k = ps.length := by simp at hk; omega
      subst this
      rw [e2, e4]
      exact ho.since hx
  · by_cases hkl : k < ps.length
    · rw [e1 k hkl]
      rw [e1 i (by omega)] at hg
      exact h.apart i k hik hkl g hg
    · have : k = ps.length := by simp at hk; omega
      subst this
      rw [e1 i hik] at hg
      rw [e2]
      intro hxg
      have h1 := ((hm.own i hik).lt hg).2
      have h2 := (ho.lt hxg).1
      omega
theorem Pans.row {A : Option Addr} {c n : Nat} (h : Pans w1 w vs ps) (ho : Own w1 w 40 1 (.slice A n c) ps.length vs) : PnRow w A ps := fun k hk => by
  obtain ⟨B, c', hB⟩ := (h.own k hk).form
  have hrow := h.own k hk
  rw [hB] at hrow
  have hrow := hrow.row
  obtain ⟨A', c2, hv⟩ := ho.form
  injection hv with h1 h2 h3
  subst h2
  have hr := ho.row
  obtain ⟨ad, ha, hc⟩ := hr k (by rw [h.len]; exact hk)
  refine ⟨ad, B, c', ha, fun w2 he => he.cell ?_, by rw [pnA_at hk] at hrow; exact hrow⟩
  rw [hc]
  have e : vs.getD k undef = vs[k]'(by rw [h.len]; exact hk) := by simp [List.getD, h.len, hk]
  rw [e, pnA_at hk] at hB
  rw [List.getElem?_eq_getElem (by rw [h.len]; exact hk), hB]
end
/-- A linkage, all in memory that is new since w1. -/
structure TwinOk (w1 w : World) (A : Option Addr) (c : Nat) (B : Option Addr) (d : Nat) (vs : List Value) (ps : List (List Sp)) (hs : List Hg) : Prop where
  pans : Pans w1 w vs ps
  pown : Own w1 w 40 1 (.slice A ps.length c) ps.length vs
  hown : Own w1 w 85 5 (.slice B hs.length d) hs.length (hs.map Hg.cells).flatten
theorem TwinOk.later {w1 w w' : World} {A B : Option Addr} {c d : Nat} {vs : List Value} {ps : List (List Sp)} {hs : List Hg} (h : TwinOk w1 w A c B d vs ps hs) (he : Ext w w') : TwinOk w1 w' A c B d vs ps hs := ⟨h.pans.later he, h.pown.later he, h.hown.later he⟩
theorem TwinOk.lk {w1 w w0 : World} {A B A0 B0 : Option Addr} {c d : Nat} {vs : List Value} {ps : List (List Sp)} {hs : List Hg} (h : TwinOk w1 w A c B d vs ps hs) (hL : Lk w0 A0 ps B0 hs) : Lk w A ps B hs := ⟨h.pans.row h.pown, h.hown.row, hL.np, hL.nh, hL.hp⟩
set_option maxRecDepth 100000 in
set_option maxHeartbeats 8000000 in
theorem twin_any (A : Option Addr) (c : Nat) (ps : List (List Sp)) (B : Option Addr) (d : Nat) (hs : List Hg) (w : World) (hL : Lk w A ps B hs) :
    Calls Try.prog 18 #[.agg #[.slice A ps.length c, .slice B hs.length d]] w fun e w' => ∃ A' c' B' d' vs, e = .returned (.agg #[.slice A' ps.length c', .slice B' hs.length d']) ∧ TwinOk w w' A' c' B' d' vs ps hs ∧ Ext w w' := by
  have hpa := fun k (hk : k < ps.length) => hL.hA.at_ hk
  have hcp := fun (w2 : World) (he : Ext w w2) (b : Nat) (hb : w2.heap[b]? = some (.cells #[] 85)) (hbb : w.heap.size ≤ b) => app_copy (w := w2) (base := w.heap.size) (c := d) hinge_elem Try.underlying23 23 hb hbb (Hg.cells_len hs) (hL.hB.ext he) (Hg.cells_one hs) hL.nh (by omega)
  have hpp := fun (k : Nat) (hk : k < ps.length) (w2 : World) (X : Option Addr) (c base b : Nat) (hX : SRow w2 X (pnA ps k)) (hb : w2.heap[b]? = some (.cells #[] 27)) (hbb : base ≤ b) => app_copy (w := w2) (base := base) (c := c) spot_elem Try.underlying40 40 hb hbb (Sp.cells_len (pnA ps k)) hX (Sp.cells_one _) (hL.hp k hk) (by omega)
  have htk := fun k (hk : k < ps.length) => (show ps.take (k + 1) = ps.take k ++ [pnA ps k] by rw [List.take_succ_eq_append_getElem hk, pnA_at hk])
  have htl : ps.take ps.length = ps := List.take_length
  have htkl := fun k (hk : k ≤ ps.length) => (show (ps.take k).length = k by rw [List.length_take]; omega)
  have hnp := hL.np
  have Hpa := Lib.hid hpa
  have Hcp := Lib.hid hcp
  have Hpp := Lib.hid hpp
  have Htk := Lib.hid htk
  have Htl := Lib.hid htl
  have Htkl := Lib.hid htkl
  clear hpa hcp hpp htk htl htkl hL
  obtain ⟨np, hnp2⟩ : ∃ np, np = ps.length := ⟨_, rfl⟩
  obtain ⟨nh, hnh2⟩ : ∃ nh, nh = hs.length := ⟨_, rfl⟩
  rw [← hnp2] at Hpa Hpp Htk Htl Htkl hnp ⊢
  rw [← hnh2] at Hcp ⊢
  have Hnp2 := Lib.hid hnp2
  have Hnh2 := Lib.hid hnh2
  clear hnp2 hnh2
  have kl : Blk ((w.alloc (.cells #[.slice A np c, .slice B nh d] 25)).alloc (.cells #[.slice none 0 0, .slice none 0 0] 25)) w.heap.size [.slice A np c, .slice B nh d] := (Blk.new _ _).ext ((Ext.refl _).alloc _)
  have kz : Whole ((w.alloc (.cells #[.slice A np c, .slice B nh d] 25)).alloc (.cells #[.slice none 0 0, .slice none 0 0] 25)) (w.heap.size + 1) #[.slice none 0 0, .slice none 0 0] 25 := Whole.new (by simp)
  have b0 := kl.at_ 0 rfl
  have b1 := kl.at_ 1 rfl
  have hx0 : Ext w ((w.alloc (.cells #[.slice A np c, .slice B nh d] 25)).alloc (.cells #[.slice none 0 0, .slice none 0 0] 25)) := ((Ext.refl _).alloc _).alloc _
  have Hx0 := Lib.hid hx0
  have Kz := Lib.hid kz
  have B0 := Lib.hid b0
  clear kl kz hx0
  have hW : (((w.alloc (.cells #[.slice A np c, .slice B nh d] 25)).alloc (.cells #[.slice none 0 0, .slice none 0 0] 25)).alloc (.cells #[] 85)).heap[w.heap.size + 1 + 1]? = some (.cells #[] 85) := (Whole.new (cs := #[]) (t := 85) (g := w.heap.size + 1 + 1) (by simp)).h
  obtain ⟨v1, w1, hr, hx1, ho1, _⟩ := Hcp.out _ (Hx0.out.alloc _) _ hW (by omega)
  have hxw1 := (Hx0.out.alloc (.cells #[] 85)).trans hx1
  have hown1 : Own w w1 85 5 v1 nh (hs.map Hg.cells).flatten := ⟨hxw1, ho1⟩
  have hx2 := (((Ext.refl ((w.alloc (.cells #[.slice A np c, .slice B nh d] 25)).alloc (.cells #[.slice none 0 0, .slice none 0 0] 25))).alloc (.cells #[] 85)).trans hx1)
  have kz := Whole.ext Kz.out hx2
  have c0 : ∀ w', Ext w1 w' → _ := fun w' he => b0 w' (hx2.trans he)
  obtain ⟨B1, d1, rfl⟩ := hown1.form
  have Hr := Lib.hid hr
  have Hown1 := Lib.hid hown1
  have Kz1 := Lib.hid kz
  clear hr hW ho1 hx2 kz hx1 hown1 Hcp Kz
  go_enter Try.func18, Try.ntmps18
  go_wp2_with (at_builtin; refine Lib.wpList_append_run _ rfl _ _ 23 23 rfl _ _ rfl rfl _ w1 Hr.out ?_; clear b0 b1)
  obtain ⟨g3, hg3⟩ : ∃ g3, g3 = w1.heap.size := ⟨_, rfl⟩
  have hS0 : Whole (w1.alloc (.cells #[.slice none 0 0, .slice B1 nh d1] 25)) g3 #[.slice none 0 0, .slice B1 nh d1] 25 := Whole.new hg3.symm
  have hge : w.heap.size ≤ g3 := by rw [hg3]; exact hxw1.le
  have hh0 := Hown1.out.alloc (.cells #[.slice none 0 0, .slice B1 nh d1] 25)
  have hK0 := Whole.ext Kz1.out ((Ext.refl w1).alloc (.cells #[.slice none 0 0, .slice B1 nh d1] 25))
  have hne3 : w.heap.size + 1 ≠ g3 := by
    have h1 := (Array.getElem?_eq_some_iff.1 Kz1.out.h).1
    omega
  have hxa := hxw1.alloc (.cells #[.slice none 0 0, .slice B1 nh d1] 25)
  rw [← hg3]
  have Hge := Lib.hid hge
  have Hne3 := Lib.hid hne3
  have hP0 : Own w (w1.alloc (.cells #[.slice none 0 0, .slice B1 nh d1] 25)) 40 1 (.slice none 0 0) 0 [] := Own.nil' hxa _ _
  have hQ0 := Pans.nil w (w1.alloc (.cells #[.slice none 0 0, .slice B1 nh d1] 25))
  generalize (w1.alloc (.cells #[.slice none 0 0, .slice B1 nh d1] 25)) = W2 at *
  clear hg3 hge hne3 Hr Hown1 Kz1 B0 Hx0 c0 hxw1
  go_loopw [14] (fun i wr => ∃ (k : Nat) (vs : List Value) (v : Value), k ≤ np ∧ i = .int .i64 k ∧ Whole wr g3 #[v, .slice B1 nh d1] 25 ∧ Own w wr 40 1 v k vs ∧ Pans w wr vs (ps.take k) ∧ Own w wr 85 5 (.slice B1 nh d1) nh (hs.map Hg.cells).flatten ∧ Whole wr (w.heap.size + 1) #[.slice none 0 0, .slice none 0 0] 25) (fun i _ => np - (intOf i).toNat)
  case atStart => exact ⟨0, [], _, by omega, rfl, hS0, hP0, hQ0, hh0, hK0⟩
  case round =>
    clear hS0 hP0 hQ0 hh0 hK0 hxa
    obtain ⟨k, vs, v, hk, rfl, hS, hP, hQ, hh, hK⟩ := hrel
    by_cases hlt : k < np
    · obtain ⟨Av, cv, rfl⟩ := hP.form
      obtain ⟨ad, X, cx, rfl, x0, hX⟩ := Hpa.out k hlt
      have hex := hP.ext
      have u0 : ∀ w', Ext wr w' → _ := fun w' he => x0 w' (hex.trans he)
      have hXr := hX.ext hex
      have hpp := fun (w2 : World) (he : Ext wr w2) (b : Nat) (hb : w2.heap[b]? = some (.cells #[] 27)) (hbb : wr.heap.size ≤ b) => Hpp.out k hlt w2 X cx wr.heap.size b (hXr.ext he) hb hbb
      have Hpp' := Lib.hid hpp
      have s0 : ∀ w', Ext wr w' → w'.cell? ⟨g3, 0, none⟩ = some (.slice Av k cv) := fun w' he => he.cell (hS.cell 0 rfl)
      have Htk' := Lib.hid (Htk.out k hlt)
      have HH := Lib.hid (And.intro hS (And.intro hP (And.intro hQ (And.intro hh hK))))
      have Hlk := Lib.hid (Htkl.out k hk)
      clear x0 hX hXr hpp Hpp Hpa Htk hS hP hQ hh hK Htkl Htl
      obtain ⟨m, hm⟩ : ∃ m, m = (pnA ps k).length := ⟨_, rfl⟩
      rw [← hm] at u0 Hpp'
      have Hm := Lib.hid hm
      have hkn : (k : Int) < (np : Int) := by omega
      clear hm
      go_wp2
      refine Cg.wp_region_calm (p := Cg.extPre) (fr := (fun _ => false)) 6 (fun _ _ _ _ => True) (fun _ _ _ _ _ _ h => h) (by kernel_rfl) (by kernel_rfl) ?_
      simp only [List.take_succ_cons, List.take_zero, List.drop_succ_cons, List.drop_zero]
      refine Cg.calm_quiet Cg.calm_mono_final wr (fun _ h => h) 2 (by kernel_rfl) ?_
      simp only [List.take_succ_cons, List.take_zero, List.drop_succ_cons, List.drop_zero]
      repeat (go_big_quiet_step (fail))
      refine wpQuiet_nil ?_
      refine Cg.calm_value Cg.calm_mono_final (fun v w => ∃ b, v = .slice (some ⟨b, 0, none⟩) 0 0 ∧ wr.heap.size ≤ b ∧ w.heap[b]? = some (.cells #[] 27)) (fun _ w' w'' hR ⟨b, e, hb, hh⟩ => ⟨b, e, hb, (show Ext w' w'' from hR).heap hh⟩) rfl (fun w' hR _ => ⟨.slice (some ⟨w'.heap.size, 0, none⟩) 0 0, w'.alloc (.cells #[] 27), by go_simp, (Ext.refl _).alloc _, ⟨_, rfl, (show Ext wr w' from hR).le, heap_alloc_new _ _⟩, fun hf => by cases hf⟩) ?_
      rintro v2 _ _ ⟨b2, rfl, _, _⟩ _
      simp only [Act.put, List.setIfInBounds_toArray, List.set_cons_succ, List.set_cons_zero]
      refine Cg.calm_quiet Cg.calm_mono_final wr (fun _ h => h) 1 (by kernel_rfl) ?_
      simp only [List.take_succ_cons, List.take_zero, List.drop_succ_cons, List.drop_zero]
      repeat (go_big_quiet_step (fail))
      refine wpQuiet_nil ?_
      refine Cg.calm_value Cg.calm_mono_final (fun v w => w.ownsRow wr.heap.size 27 2 v m ((pnA ps k).map Sp.cells).flatten ∧ True) (fun _ w' w'' hR ⟨h1, h2⟩ => ⟨(show Ext w' w'' from hR).owns h1, h2⟩) rfl (fun w' hR hf => ?_) ?_
      · obtain ⟨b', eb, hbb, hb2⟩ := (hf 2 (by kernel_rfl)).2 rfl
        simp only [Value.slice.injEq, Option.some.injEq, Addr.mk.injEq, and_true] at eb
        subst eb
        obtain ⟨v', w'', hr, hx2, ho, _⟩ := Hpp'.out w' hR _ hb2 hbb
        exact ⟨_, w'', exec_append _ _ 40 rfl rfl rfl hr, hx2, ⟨ho, trivial⟩, fun hf => by cases hf⟩
      rintro v4 wq hq ⟨ho4, _⟩ _
      obtain ⟨X4, c4, rfl⟩ : ∃ X4 c4, v4 = .slice X4 m c4 := Own.form (w1 := wr) (w := wq) ⟨hq, ho4⟩
      clear ho4 hq
      simp only [Act.put, List.setIfInBounds_toArray, List.set_cons_succ, List.set_cons_zero]
      refine Cg.calm_value Cg.calm_mono_final (fun v w => ∃ b, v = .slice (some ⟨b, 0, none⟩) 1 1 ∧ w.heap[b]? = some (.cells #[.slice X4 m c4] 40)) (fun _ w' w'' hR ⟨b, e, hh⟩ => ⟨b, e, (show Ext w' w'' from hR).heap hh⟩) rfl (fun w' hR _ => ⟨.slice (some ⟨w'.heap.size, 0, none⟩) 1 1, w'.alloc (.cells #[.slice X4 m c4] 40), by go_simp, (Ext.refl _).alloc _, ⟨_, rfl, heap_alloc_new _ _⟩, fun hf => by cases hf⟩) ?_
      rintro v5 _ _ ⟨b5, rfl, _⟩ _
      simp only [Act.put, List.setIfInBounds_toArray, List.set_cons_succ, List.set_cons_zero]
      refine Cg.calm_nil fun w3 he3 hF => ?_
      have he3 : Ext wr w3 := he3
      obtain ⟨_, e5, hh5⟩ := (hF.1 5).2 rfl
      simp only [Value.slice.injEq, Option.some.injEq, Addr.mk.injEq, and_true] at e5
      subst e5
      obtain ⟨hx4, _⟩ := (hF.1 4).1.2 rfl
      clear hF
      obtain ⟨hS, hP, hQ, hh, hK⟩ := HH.out
      have hx4' : Own wr w3 27 2 (.slice X4 m c4) m ((pnA ps k).map Sp.cells).flatten := ⟨he3, hx4⟩
      have hrow5 : Row w3 (some ⟨b5, 0, none⟩) [.slice X4 m c4] := row_heap hh5
      have hone : ∀ u ∈ [Value.slice X4 m c4], u.oneCell' = true := by
        intro u hu
        simp at hu
        subst hu
        rfl
      have hQ3 := (hQ.later he3).snoc (x := .slice X4 m c4) hQ hP.ext (by rw [← Hm.out]; exact hx4')
      rw [← Htk'.out] at hQ3
      have hS3 := hS.ext he3
      have hP3 := hP.later he3
      have hh3 := hh.later he3
      have hK3 := hK.ext he3
      have H3 := Lib.hid (And.intro hS3 (And.intro hP3 (And.intro hQ3 (And.intro hh3 hK3))))
      have Hx4 := Lib.hid hx4'
      clear hS3 hP3 hQ3 hh3 hK3 hS hP hQ hh hK HH hx4 hx4' hh5
      go_wp2_with (refine own_append_src (w1 := w) panel_elem rfl _ _ 22 rfl Try.underlying22 _ k _ rfl H3.out.2.1 _ 1 1 _ rfl rfl hrow5 hone (by omega) (by unfold maxLen; omega) ?_; intro v' w' ho hg; obtain ⟨A6, c6, rfl⟩ := ho.form; have hg : w3.grownBy w' (Value.slice Av k cv).ownBlock := hg; obtain ⟨hS3, hP3, hQ3, hh3, hK3⟩ := H3.out; have hS4 := hS3.grown hg (fun e => hP3.ne_whole hS3 (by decide) e.symm); have hK4 := hK3.grown hg (fun e => hP3.ne_whole hK3 (by decide) e.symm); have t0 := hS4.cell 0 rfl; have tf := hS4.free 0; clear hS3 hP3 hQ3 hh3 hK3)
      obtain ⟨hS3, hP3, hQ3, hh3, hK3⟩ := H3.out
      have hQ4 := hQ3.grown hg ho.ext (fun j hj g e1 e2 => (hQ3.own j hj).ne_own hP3 (by decide) e2.symm e1)
      have hh4 := hh3.grown hg ho.ext (fun g e1 e2 => hh3.ne_own hP3 (by decide) e2.symm e1)
      have hge := Hge.out
      have hS5 := hS4.setCell 0 (.slice A6 (k + 1) c6)
      have hK5 := hK4.farCell Hne3.out 0 (.slice A6 (k + 1) c6)
      have hP5 := ho.other (p := ⟨g3, 0, none⟩) hge (ho.ne_whole hS4 (by decide)) (.slice A6 (k + 1) c6)
      have hQ5 := hQ4.other (p := ⟨g3, 0, none⟩) hge (fun j hj => (hQ4.own j hj).ne_whole hS4 (by decide)) (.slice A6 (k + 1) c6)
      have hh5 := hh4.other (p := ⟨g3, 0, none⟩) hge (hh4.ne_whole hS4 (by decide)) (.slice A6 (k + 1) c6)
      go_roundw
      case rel => exact ⟨k + 1, _, (.slice A6 (k + 1) c6), by omega, by go_num, hS5, hP5, hQ5, hh5, hK5⟩
      case measure => simp [intOf]; omega
    · obtain rfl : np = k := by omega
      have s0 := hS.cell 0 rfl
      have s1 := hS.cell 1 rfl
      have z0 := hK.cell 0 rfl
      have z1 := hK.cell 1 rfl
      have zf := hK.free
      rw [Htl.out] at hQ
      have hne := Hne3.out
      obtain ⟨Av, cv, rfl⟩ := hP.form
      have HH := Lib.hid (And.intro hS (And.intro hP (And.intro hQ (And.intro hh hK))))
      clear hS hP hQ hh hK Hpa Hpp Htk
      go_wp2
      obtain ⟨hS, hP, hQ, hh, hK⟩ := HH.out
      have hge1 : w.heap.size ≤ w.heap.size + 1 := by omega
      have hP5 := (hP.other (p := ⟨w.heap.size + 1, 0, none⟩) hge1 (hP.ne_whole hK (by decide)) (.slice Av np cv)).other (p := ⟨w.heap.size + 1, 1, none⟩) hge1 (hP.ne_whole hK (by decide)) (.slice B1 nh d1)
      have hh5 := (hh.other (p := ⟨w.heap.size + 1, 0, none⟩) hge1 (hh.ne_whole hK (by decide)) (.slice Av np cv)).other (p := ⟨w.heap.size + 1, 1, none⟩) hge1 (hh.ne_whole hK (by decide)) (.slice B1 nh d1)
      have hQ5 := (hQ.other (p := ⟨w.heap.size + 1, 0, none⟩) hge1 (fun j hj => (hQ.own j hj).ne_whole hK (by decide)) (.slice Av np cv)).other (p := ⟨w.heap.size + 1, 1, none⟩) hge1 (fun j hj => (hQ.own j hj).ne_whole hK (by decide)) (.slice B1 nh d1)
      have hK5 := ((hK.setCell 0 (.slice Av np cv)).setCell 1 (.slice B1 nh d1)).blk
      refine bodyPost_ret (results_link rfl _ _ rfl hK5) rfl ?_
      refine ⟨_, _, _, _, vs, rfl, ⟨hQ5, ?_, ?_⟩, hP5.ext⟩
      · rw [← Hnp2.out]; exact hP5
      · rw [← Hnh2.out]; exact hh5
end Go.Proofs.Yteilglljigjefaa
