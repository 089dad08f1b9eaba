/- The reference's closing, at a hinge. -/
import Derived.Test.YteilglljigjefaaR27
import Derived.Test.YteilglljigjefaaR11
import Derived.Test.YteilglljigjefaaR15
import Derived.Deep.MidRow
import Derived.Test.YteilglljigjefaaR09
import Derived.Test.YteilglljigjefaaR14
namespace Go.Proofs.Yteilglljigjefaa
open Go.RowKit
theorem close_first {w0 w3 : World} {a b : Sp} {h : Hg} {T : List Hg} {p : Ps} {rs : List Int} {m : Nat} {r : List Nat} {R X : Option Addr} {x : Nat} (hm : m < 36) (hno : ∀ j, j < m → clo a b T (flw p h (trn j)) = none) (hr : clo a b T (flw p h (trn m)) = some r) (hx : Ext w0 w3)
    (hX : Ints w3 X (rs ++ (m : Int) :: r.map fun (k : Nat) => (k : Int))) (hg : ∃ g, X = some ⟨g, 0, none⟩) :
    ClQ w0 R rs (clo a b (h :: T) p) (.returned (.tuple #[.slice X (rs.length + (r.length + 1)) x, .bool true])) w3 := by
  rw [clo_first hm hno hr]
  refine ⟨_, rfl, hx, fun r' hr' => ?_⟩
  injection hr' with hr'
  subst hr'
  exact ⟨X, x, rfl, hX, .inr hg⟩
set_option maxRecDepth 100000 in
set_option maxHeartbeats 16000000 in
theorem closing_step (A : Option Addr) (c np : Nat) (B : Option Addr) (d : Nat) (hs : List Hg) (a b : Sp) (hh0 : ∀ h ∈ hs, hingeB h) (hnh : hs.length ≤ 3) (R : Option Addr) (rc : Nat) (rs : List Int) (p : Ps) (w : World) (hp : PoseOk p rs.length) (hB : HRow w B hs) (hr : Ints w R rs) (hn : rs.length < hs.length)
    (ih : ∀ (R' : Option Addr) (rc' : Nat) (rs' : List Int) (p' : Ps) (w' : World), rs'.length = rs.length + 1 → PoseOk p' (rs.length + 1) → Ext w w' → Ints w' R' rs' →
      Calls Try.prog 57 #[.agg #[.slice A np c, .slice B hs.length d], a.val, b.val, .slice R' (rs.length + 1) rc', p'.val] w' fun e w'' => ClQ w' R' rs' (clo a b (hs.drop (rs.length + 1)) p') e w'') :
    Calls Try.prog 57 #[.agg #[.slice A np c, .slice B hs.length d], a.val, b.val, .slice R rs.length rc, p.val] w fun e w' => ClQ w R rs (clo a b (hs.drop rs.length) p) e w' := by
  have hh := hh0 (hgA hs rs.length) (by rw [hgA_at hn]; exact List.getElem_mem hn)
  have hdrop : hs.drop rs.length = hgA hs rs.length :: hs.drop (rs.length + 1) := by rw [hgA_at hn]; exact List.drop_eq_getElem_cons hn
  have hok := fun (m : Nat) (hm : m < 36) => flw_ok hp hh hm
  have hfo := fun (m : Nat) (hm : m < 36) (w' : World) => next_any p ⟨(hgA hs rs.length).a, (hgA hs rs.length).b, (m : Int)⟩ rs.length w' hp (by omega) ⟨hh.1, hh.2.1, by show (0 : Int) ≤ m; omega, by show (m : Int) ≤ 35; omega⟩
  have hfo2 : ∀ (m : Nat) (hm : m < 36) (w' : World), Calls Try.prog 84 #[p.val, .agg #[vint (hgA hs rs.length).a.x, vint (hgA hs rs.length).a.y, vint (hgA hs rs.length).b.x, vint (hgA hs rs.length).b.y, vint m]] w' fun e w'' => e = .returned (flw p (hgA hs rs.length) (trn m)).val ∧ Ext w' w'' := fun m hm w' => hfo m hm w'
  obtain ⟨ad, rfl, c0, c1, c2, c3, c4⟩ := hB.at_ hn
  rw [hdrop]
  generalize hs.drop (rs.length + 1) = T at *
  clear hdrop hfo hB hh hh0
  generalize hgA hs rs.length = h at *
  have hall : ∀ (w' : World), Ext w w' → (∀ j, j < 36 → clo a b T (flw p h (trn j)) = none) → ClQ w R rs (clo a b (h :: T) p) (.returned (.tuple #[.slice none 0 0, .bool false])) w' := fun w' h1 h5 => by
    rw [clo_all h5]
    exact ⟨_, rfl, h1, fun r hr => by cases hr⟩
  have hone := fun (w' : World) (m : Nat) (r : List Nat) (X : Option Addr) (x : Nat) h1 h2 h3 h4 h5 h6 => close_first (w0 := w) (w3 := w') (a := a) (b := b) (h := h) (T := T) (p := p) (rs := rs) (m := m) (r := r) (R := R) (X := X) (x := x) h1 h2 h3 h4 h5 h6
  have hcp := fun (w2 : World) (he : Ext w w2) (base b : Nat) (hb : w2.heap[b]? = some (.cells #[] 3)) (hbb : base ≤ b) => copy_int (w := w2) (base := base) (c := rc) 30 hb hbb (xs := rs) (Row.ext hr he) (by omega)
  have Hok := Lib.hid hok
  have Hfo := Lib.hid hfo2
  have Hall := Lib.hid hall
  have Hone := Lib.hid hone
  have Hih := Lib.hid ih
  have Hcp := Lib.hid hcp
  clear hok hfo2 hall hone ih hcp hp hr
  obtain ⟨P, Q, X, Y, D⟩ := p
  obtain ⟨⟨hax, hay⟩, ⟨hbx, hby⟩, han⟩ := h
  obtain ⟨ax, ay⟩ := a
  obtain ⟨bx, bY⟩ := b
  generalize B0h : some ad = B at *
  have B0h := Lib.hid B0h
  generalize hs.length = nh at *
  have hnn : (rs.length : Int) < (nh : Int) := by omega
  have hn0 : ((rs.length : Int) == (nh : Int)) = false := by simp; omega
  have kl : Blk ((((w.alloc (.cells #[.slice A np c, .slice B nh d] 25)).alloc (.cells #[vint ax, vint ay] 27)).alloc (.cells #[vint bx, vint bY] 27)).alloc (.cells #[vint P, vint Q, vint X, vint Y, vint D] 82)) w.heap.size [.slice A np c, .slice B nh d] := (Blk.new _ _).ext ((((Ext.refl _).alloc _).alloc _).alloc _)
  have ka : Blk ((((w.alloc (.cells #[.slice A np c, .slice B nh d] 25)).alloc (.cells #[vint ax, vint ay] 27)).alloc (.cells #[vint bx, vint bY] 27)).alloc (.cells #[vint P, vint Q, vint X, vint Y, vint D] 82)) (w.heap.size + 1) [vint ax, vint ay] := (Blk.new' (cs := #[vint ax, vint ay]) (by simp)).ext (((Ext.refl _).alloc _).alloc _)
  have kb : Blk ((((w.alloc (.cells #[.slice A np c, .slice B nh d] 25)).alloc (.cells #[vint ax, vint ay] 27)).alloc (.cells #[vint bx, vint bY] 27)).alloc (.cells #[vint P, vint Q, vint X, vint Y, vint D] 82)) (w.heap.size + 1 + 1) [vint bx, vint bY] := (Blk.new' (cs := #[vint bx, vint bY]) (by simp)).ext ((Ext.refl _).alloc _)
  have kp : Blk ((((w.alloc (.cells #[.slice A np c, .slice B nh d] 25)).alloc (.cells #[vint ax, vint ay] 27)).alloc (.cells #[vint bx, vint bY] 27)).alloc (.cells #[vint P, vint Q, vint X, vint Y, vint D] 82)) (w.heap.size + 1 + 1 + 1) [vint P, vint Q, vint X, vint Y, vint D] := Blk.new' (cs := #[vint P, vint Q, vint X, vint Y, vint D]) (by simp)
  have l0 := kl.at_ 0 rfl
  have l1 := kl.at_ 1 rfl
  have a0 := ka.at_ 0 rfl
  have a1 := ka.at_ 1 rfl
  have b0 := kb.at_ 0 rfl
  have b1 := kb.at_ 1 rfl
  have p0 := kp.at_ 0 rfl
  have p1 := kp.at_ 1 rfl
  have p2 := kp.at_ 2 rfl
  have p3 := kp.at_ 3 rfl
  have p4 := kp.at_ 4 rfl
  have hx0 : Ext w ((((w.alloc (.cells #[.slice A np c, .slice B nh d] 25)).alloc (.cells #[vint ax, vint ay] 27)).alloc (.cells #[vint bx, vint bY] 27)).alloc (.cells #[vint P, vint Q, vint X, vint Y, vint D] 82)) := ((((Ext.refl _).alloc _).alloc _).alloc _).alloc _
  have Hx0 := Lib.hid hx0
  have c0 : ∀ w', Ext ((((w.alloc (.cells #[.slice A np c, .slice B nh d] 25)).alloc (.cells #[vint ax, vint ay] 27)).alloc (.cells #[vint bx, vint bY] 27)).alloc (.cells #[vint P, vint Q, vint X, vint Y, vint D] 82)) w' → _ := fun w' he => c0 w' (hx0.trans he)
  have c1 : ∀ w', Ext ((((w.alloc (.cells #[.slice A np c, .slice B nh d] 25)).alloc (.cells #[vint ax, vint ay] 27)).alloc (.cells #[vint bx, vint bY] 27)).alloc (.cells #[vint P, vint Q, vint X, vint Y, vint D] 82)) w' → _ := fun w' he => c1 w' (hx0.trans he)
  have c2 : ∀ w', Ext ((((w.alloc (.cells #[.slice A np c, .slice B nh d] 25)).alloc (.cells #[vint ax, vint ay] 27)).alloc (.cells #[vint bx, vint bY] 27)).alloc (.cells #[vint P, vint Q, vint X, vint Y, vint D] 82)) w' → _ := fun w' he => c2 w' (hx0.trans he)
  have c3 : ∀ w', Ext ((((w.alloc (.cells #[.slice A np c, .slice B nh d] 25)).alloc (.cells #[vint ax, vint ay] 27)).alloc (.cells #[vint bx, vint bY] 27)).alloc (.cells #[vint P, vint Q, vint X, vint Y, vint D] 82)) w' → _ := fun w' he => c3 w' (hx0.trans he)
  have c4 : ∀ w', Ext ((((w.alloc (.cells #[.slice A np c, .slice B nh d] 25)).alloc (.cells #[vint ax, vint ay] 27)).alloc (.cells #[vint bx, vint bY] 27)).alloc (.cells #[vint P, vint Q, vint X, vint Y, vint D] 82)) w' → _ := fun w' he => c4 w' (hx0.trans he)
  clear kl ka kb kp hx0
  have hbb := B0h.out
  clear B0h
  subst hbb
  go_enter Try.func57, Try.ntmps57
  go_wp2
  have hK0 : Whole (((((w.alloc (.cells #[.slice A np c, .slice (some ad) nh d] 25)).alloc (.cells #[vint ax, vint ay] 27)).alloc (.cells #[vint bx, vint bY] 27)).alloc (.cells #[vint P, vint Q, vint X, vint Y, vint D] 82)).alloc (.cells #[vint hax, vint hay, vint hbx, vint hby, vint han] 85)) (w.heap.size + 1 + 1 + 1 + 1) #[vint hax, vint hay, vint hbx, vint hby, vint han] 85 := Whole.new (by simp)
  have hle : ((((w.alloc (.cells #[.slice A np c, .slice (some ad) nh d] 25)).alloc (.cells #[vint ax, vint ay] 27)).alloc (.cells #[vint bx, vint bY] 27)).alloc (.cells #[vint P, vint Q, vint X, vint Y, vint D] 82)).heap.size ≤ w.heap.size + 1 + 1 + 1 + 1 := by simp
  generalize ((((w.alloc (.cells #[.slice A np c, .slice (some ad) nh d] 25)).alloc (.cells #[vint ax, vint ay] 27)).alloc (.cells #[vint bx, vint bY] 27)).alloc (.cells #[vint P, vint Q, vint X, vint Y, vint D] 82)) = W4 at *
  generalize w.heap.size + 1 + 1 + 1 + 1 = g13 at *
  have hx5 : Ext W4 (W4.alloc (.cells #[vint hax, vint hay, vint hbx, vint hby, vint han] 85)) := (Ext.refl _).alloc _
  generalize (W4.alloc (.cells #[vint hax, vint hay, vint hbx, vint hby, vint han] 85)) = W5 at *
  have Hle := Lib.hid hle
  clear c0 c1 c2 c3 c4 hle
  go_loopw [14] (fun i wr => ∃ m : Nat, m ≤ 36 ∧ i = .int .i64 m ∧ Ext W4 wr ∧ (∃ u, Whole wr g13 #[vint hax, vint hay, vint hbx, vint hby, u] 85) ∧ Hid (∀ j, j < m → clo ⟨ax, ay⟩ ⟨bx, bY⟩ T (flw ⟨P, Q, X, Y, D⟩ ⟨⟨hax, hay⟩, ⟨hbx, hby⟩, han⟩ (trn j)) = none)) (fun i _ => 36 - (intOf i).toNat)
  case atStart => exact ⟨0, by omega, rfl, hx5, ⟨_, hK0⟩, Lib.hid fun j hj => absurd hj (by omega)⟩
  case round =>
    clear hx5 hK0
    obtain ⟨m, hm, rfl, hxr, ⟨u, hK⟩, hno⟩ := hrel
    by_cases hlt : m < 36
    · have hlt2 : (m : Int) < 36 := by omega
      have hfo := Hfo.out m hlt
      have hok := Hok.out m hlt
      have hone := fun (w' : World) (r : List Nat) (X : Option Addr) (x : Nat) hx h7 h8 h9 => Hone.out w' m r X x hlt hno.out h7 hx h8 h9
      have hnext : clo ⟨ax, ay⟩ ⟨bx, bY⟩ T (flw ⟨P, Q, X, Y, D⟩ ⟨⟨hax, hay⟩, ⟨hbx, hby⟩, han⟩ (trn m)) = none → ∀ j, j < m + 1 → clo ⟨ax, ay⟩ ⟨bx, bY⟩ T (flw ⟨P, Q, X, Y, D⟩ ⟨⟨hax, hay⟩, ⟨hbx, hby⟩, han⟩ (trn j)) = none := fun h j hj => by
        rcases Nat.lt_succ_iff_lt_or_eq.1 hj with h1 | rfl
        · exact hno.out j h1
        · exact h
      have Hnext := Lib.hid hnext
      have Hone' := Lib.hid hone
      clear hnext hone Hfo Hok Hone hno
      generalize (flw ⟨P, Q, X, Y, D⟩ ⟨⟨hax, hay⟩, ⟨hbx, hby⟩, han⟩ (trn m)) = p2 at *
      obtain ⟨p2a, p2b, p2c, p2d, p2e⟩ := p2
      have Hfo := Lib.hid hfo
      have Hok := Lib.hid hok
      clear hfo hok
      have h4 := hK.cell 4 rfl
      have hf := hK.free 4
      have hx1 : Ext W4 (wr.setCell ⟨g13, 4, none⟩ (.int .i64 m)) := hxr.setCell Hle.out _
      have hK1 := hK.setCell 4 (.int .i64 m)
      have HX := Lib.hid (And.intro hx1 hK1)
      clear hxr hK hx1 hK1
      go_wp2
      obtain ⟨hx1, hK1⟩ := HX.out
      generalize (wr.setCell ⟨g13, 4, none⟩ (.int .i64 m)) = W1 at *
      clear h4 hf HX
      have l0 : ∀ w', Ext W1 w' → _ := fun w' he => l0 w' (hx1.trans he)
      have l1 : ∀ w', Ext W1 w' → _ := fun w' he => l1 w' (hx1.trans he)
      have a0 : ∀ w', Ext W1 w' → _ := fun w' he => a0 w' (hx1.trans he)
      have a1 : ∀ w', Ext W1 w' → _ := fun w' he => a1 w' (hx1.trans he)
      have b0 : ∀ w', Ext W1 w' → _ := fun w' he => b0 w' (hx1.trans he)
      have b1 : ∀ w', Ext W1 w' → _ := fun w' he => b1 w' (hx1.trans he)
      have p0 : ∀ w', Ext W1 w' → _ := fun w' he => p0 w' (hx1.trans he)
      have p1 : ∀ w', Ext W1 w' → _ := fun w' he => p1 w' (hx1.trans he)
      have p2 : ∀ w', Ext W1 w' → _ := fun w' he => p2 w' (hx1.trans he)
      have p3 : ∀ w', Ext W1 w' → _ := fun w' he => p3 w' (hx1.trans he)
      have p4 : ∀ w', Ext W1 w' → _ := fun w' he => p4 w' (hx1.trans he)
      have h0 : ∀ w', Ext W1 w' → _ := fun w' he => he.cell (hK1.cell 0 rfl)
      have h1 : ∀ w', Ext W1 w' → _ := fun w' he => he.cell (hK1.cell 1 rfl)
      have h2 : ∀ w', Ext W1 w' → _ := fun w' he => he.cell (hK1.cell 2 rfl)
      have h3 : ∀ w', Ext W1 w' → _ := fun w' he => he.cell (hK1.cell 3 rfl)
      have h4 : ∀ w', Ext W1 w' → _ := fun w' he => he.cell (hK1.cell 4 rfl)
      have hw1 : Ext w W1 := Hx0.out.trans hx1
      have H1 := Lib.hid (And.intro hx1 hK1)
      have Hw1 := Lib.hid hw1
      clear hx1 hK1 hw1
      generalize hr : clo ⟨ax, ay⟩ ⟨bx, bY⟩ T ⟨p2a, p2b, p2c, p2d, p2e⟩ = o at *
      have Hr := Lib.hid hr
      clear hr
      have hnr : rs.length ≤ 1000 := by omega
      refine Cg.wp_region_calm (p := griPre W1.heap.size rs m) (fr := (fun _ => false)) 17 (fun j _ v w => (j = 11 → v = .agg #[vint p2a, vint p2b, vint p2c, vint p2d, vint p2e]) ∧ (j = 12 → ∃ V, v = .tuple #[V, .bool o.isSome] ∧ ∀ r, o = some r → ∃ g x, V = .slice (some ⟨g, 0, none⟩) (rs.length + (r.length + 1)) x ∧ Ints w (some ⟨g, 0, none⟩) (rs ++ (m : Int) :: r.map fun (k : Nat) => (k : Int)))) (fun j args v w' w'' hR h => ⟨h.1, fun e => by
        obtain ⟨V, e1, e2⟩ := h.2 e
        exact ⟨V, e1, fun r hr => by
          obtain ⟨g, x, e3, e4⟩ := e2 r hr
          exact ⟨g, x, e3, GrI.keep hR g _ _ rfl e4⟩⟩⟩) (by kernel_rfl) (by kernel_rfl) ?_
      simp only [List.take_succ_cons, List.take_zero, List.drop_succ_cons, List.drop_zero]
      refine Cg.calm_quiet Cg.calm_mono_final W1 (fun _ h => GrI.ext h) 3 (by kernel_rfl) ?_
      simp only [List.take_succ_cons, List.take_zero, List.drop_succ_cons, List.drop_zero]
      repeat (go_big_quiet_step (fail))
      refine wpQuiet_nil ?_
      refine Cg.calm_value Cg.calm_mono_final (fun v w => ∃ b, v = .slice (some ⟨b, 0, none⟩) 0 0 ∧ W1.heap.size ≤ b ∧ w.heap[b]? = some (Obj.cells #[] 3)) (fun _ w' w'' hR ⟨b, e, hb, hh⟩ => ⟨b, e, hb, (show GrI _ _ _ w' w'' from hR).kept _ _ (by simp [keptI]) hh⟩) rfl (fun w' hR _ => ⟨.slice (some ⟨w'.heap.size, 0, none⟩) 0 0, w'.alloc (.cells #[] 3), by go_simp, GrI.of_ext ((Ext.refl w').alloc _) (GrI.ext hR).le, ⟨_, rfl, (GrI.ext hR).le, heap_alloc_new _ _⟩, fun hf => by cases hf⟩) ?_
      rintro v3 _ _ ⟨b3, rfl, _, _⟩ _
      simp only [Act.put, List.setIfInBounds_toArray, List.set_cons_succ, List.set_cons_zero]
      refine Cg.calm_quiet Cg.calm_mono_final W1 (fun _ h => GrI.ext h) 1 (by kernel_rfl) ?_
      simp only [List.take_succ_cons, List.take_zero, List.drop_succ_cons, List.drop_zero]
      repeat (go_big_quiet_step (fail))
      refine wpQuiet_nil ?_
      refine Cg.calm_value Cg.calm_mono_final (fun v w => w.ownsRow W1.heap.size 3 1 v rs.length (rs.map vint) ∧ (rs.length = 0 → ∃ g, v = .slice (some ⟨g, 0, none⟩) 0 0)) (fun _ w' w'' hR ⟨h1, h2⟩ => ⟨(show GrI _ _ _ w' w'' from hR).own _ _ _ (.inl ⟨rfl, rfl⟩) h1, h2⟩) rfl (fun w' hR hf => ?_) ?_
      · obtain ⟨b', eb, hbb, hb2⟩ := (hf 3 (by kernel_rfl)).2 rfl
        simp only [Value.slice.injEq, Option.some.injEq, Addr.mk.injEq, and_true] at eb
        subst eb
        obtain ⟨v', w'', hr, hx2, ho, h0⟩ := Hcp.out w' (Hw1.out.trans (GrI.ext hR)) W1.heap.size _ hb2 hbb
        exact ⟨_, w'', exec_append _ _ 30 rfl rfl rfl hr, GrI.of_ext hx2 (GrI.ext hR).le, ⟨ho, h0⟩, fun hf => by cases hf⟩
      rintro v5 _ _ ⟨_, _⟩ _
      simp only [Act.put, List.setIfInBounds_toArray, List.set_cons_succ, List.set_cons_zero]
      refine Cg.calm_quiet Cg.calm_mono_final W1 (fun _ h => GrI.ext h) 1 (by kernel_rfl) ?_
      simp only [List.take_succ_cons, List.take_zero, List.drop_succ_cons, List.drop_zero]
      repeat (go_big_quiet_step (fail))
      refine wpQuiet_nil ?_
      refine Cg.calm_value Cg.calm_mono_final (fun v w => ∃ b, v = .slice (some ⟨b, 0, none⟩) 1 1 ∧ w.heap[b]? = some (Obj.cells #[.int .i64 m] 3)) (fun _ w' w'' hR ⟨b, e, hh⟩ => ⟨b, e, (show GrI _ _ _ w' w'' from hR).kept _ _ (by simp [keptI]) hh⟩) rfl (fun w' hR _ => ⟨.slice (some ⟨w'.heap.size, 0, none⟩) 1 1, w'.alloc (.cells #[.int .i64 m] 3), by go_simp, GrI.of_ext ((Ext.refl w').alloc _) (GrI.ext hR).le, ⟨_, rfl, heap_alloc_new _ _⟩, fun hf => by cases hf⟩) ?_
      rintro v7 _ _ ⟨b7, rfl, _⟩ _
      simp only [Act.put, List.setIfInBounds_toArray, List.set_cons_succ, List.set_cons_zero]
      refine Cg.calm_value Cg.calm_mono_final (fun v w => w.ownsRow W1.heap.size 3 1 v (rs.length + 1) ((rs ++ [(m : Int)]).map vint)) (fun _ w' w'' hR h1 => (show GrI _ _ _ w' w'' from hR).own _ _ _ (.inr ⟨rfl, rfl⟩) h1) rfl (fun w' hR hf => ?_) ?_
      · obtain ⟨ho, h0⟩ := (hf 5 (by kernel_rfl)).1.2 rfl
        obtain ⟨b', eb, hb7⟩ := (hf 7 (by kernel_rfl)).2 rfl
        simp only [Value.slice.injEq, Option.some.injEq, Addr.mk.injEq, and_true] at eb
        subst eb
        obtain ⟨v', w'', hr, ho2, hR2⟩ := app_int (y := (m : Int)) (c := 1) 30 ho h0 hb7 hnr (GrI.ext hR).le
        exact ⟨_, w'', exec_append _ _ 30 rfl rfl rfl hr, hR2, ho2, fun hf => by cases hf⟩
      rintro v8 _ _ hov _
      obtain ⟨h8, c8, rfl⟩ : ∃ h8 c8, v8 = .slice (some ⟨h8, 0, none⟩) (rs.length + 1) c8 := by
        rcases hov.2 with ⟨_, h⟩ | ⟨g, cap, cur, e, _⟩
        · omega
        · exact ⟨g, cap, e⟩
      clear hov
      simp only [Act.put, List.setIfInBounds_toArray, List.set_cons_succ, List.set_cons_zero]
      refine Cg.calm_quiet Cg.calm_mono_final W1 (fun _ h => GrI.ext h) 2 (by kernel_rfl) ?_
      simp only [List.take_succ_cons, List.take_zero, List.drop_succ_cons, List.drop_zero]
      repeat (go_big_quiet_step (fail))
      refine wpQuiet_nil ?_
      refine Cg.calm_call Cg.calm_mono_final 84 #[.agg #[vint P, vint Q, vint X, vint Y, vint D], .agg #[vint hax, vint hay, vint hbx, vint hby, vint m]] rfl (fun w => ?_) (fun w' hR hF => ?_) ?_
      · go_simp
      · exact (Hfo.out w').mono fun e w'' ⟨he', hx⟩ => ⟨_, he', GrI.of_ext hx (GrI.ext hR).le, ⟨fun _ => rfl, fun h => by cases h⟩, fun hf => by cases hf⟩
      rintro _ _ _ ⟨h, _⟩ _
      cases h rfl
      simp only [Act.put, List.setIfInBounds_toArray, List.set_cons_succ, List.set_cons_zero]
      refine Cg.calm_call Cg.calm_mono_final 57 #[.agg #[.slice A np c, .slice (some ad) nh d], .agg #[vint ax, vint ay], .agg #[vint bx, vint bY], .slice (some ⟨h8, 0, none⟩) (rs.length + 1) c8, .agg #[vint p2a, vint p2b, vint p2c, vint p2d, vint p2e]] rfl (fun w => ?_) (fun w' hR hF => ?_) ?_
      · go_simp
      · have ho := (hF 8 (by kernel_rfl)).1.2 rfl
        have hi : Ints w' (some ⟨h8, 0, none⟩) (rs ++ [(m : Int)]) := Own.row (w1 := W1) (m := rs.length + 1) (c := c8) (n := rs.length + 1) ⟨GrI.ext hR, ho⟩
        have h := Hih.out (some ⟨h8, 0, none⟩) c8 (rs ++ [(m : Int)]) ⟨p2a, p2b, p2c, p2d, p2e⟩ w' (by simp) Hok.out (Hw1.out.trans (GrI.ext hR)) hi
        rw [Hr.out] at h
        refine h.mono fun e w'' ⟨V, he', hx, hv⟩ => ⟨_, he', GrI.of_ext hx (GrI.ext hR).le, ⟨fun h => (by cases h), fun _ => ⟨V, rfl, fun r hr => ?_⟩⟩, fun hf => by cases hf⟩
        obtain ⟨Z, z, e1, e2, e3⟩ := hv r hr
        obtain ⟨g, rfl⟩ : ∃ g, Z = some ⟨g, 0, none⟩ := by
          rcases e3 with rfl | h
          · exact ⟨_, rfl⟩
          · exact h
        exact ⟨g, z, by rw [e1, List.length_append, List.length_singleton, Nat.add_assoc, Nat.add_comm 1], by simpa using e2⟩
      rintro _ _ _ ⟨_, hV⟩ _
      obtain ⟨V, rfl, _⟩ := hV rfl
      simp only [Act.put, List.setIfInBounds_toArray, List.set_cons_succ, List.set_cons_zero]
      refine Cg.calm_quiet Cg.calm_mono_final W1 (fun _ h => GrI.ext h) 4 (by kernel_rfl) ?_
      simp only [List.take_succ_cons, List.take_zero, List.drop_succ_cons, List.drop_zero]
      repeat (go_big_quiet_step (fail))
      refine wpQuiet_nil ?_
      refine Cg.calm_nil fun w3 hx3 hF => ?_
      have hx3 : Ext W1 w3 := GrI.ext hx3
      obtain ⟨V', eV, hV⟩ := ((hF.1 12).2 rfl).2 rfl
      clear hF
      obtain ⟨hx1, hK1⟩ := H1.out
      have hx4 := hx1.trans hx3
      have hK3 := hK1.ext hx3
      have hw3 := Hw1.out.trans hx3
      have H3 := Lib.hid (And.intro hx4 (And.intro hK3 hw3))
      clear hx1 hK1 hx4 hK3 hw3 H1 Hw1 l0 l1 a0 a1 b0 b1 p0 p1 p2 p3 p4 h0 h1 h2 h3 h4 Hfo Hok Hih Hcp
      cases o with
      | none =>
        clear hV eV
        simp only [Option.isSome_none]
        go_wp2
        obtain ⟨hx4, hK3, _⟩ := H3.out
        go_roundw
        case rel => exact ⟨m + 1, by omega, by go_num, hx4, ⟨_, hK3⟩, Lib.hid (Hnext.out rfl)⟩
        case measure => simp [intOf]; omega
      | some r =>
        obtain ⟨g, x, e1, e2⟩ := hV r rfl
        obtain rfl : V = V' := by simpa using eV
        subst e1
        clear hV eV
        simp only [Option.isSome_some]
        have E2 := Lib.hid e2
        clear e2
        go_wp2
        go_ret2
        exact Hone'.out _ r _ _ H3.out.2.2 rfl E2.out ⟨_, rfl⟩
    · obtain rfl : m = 36 := by omega
      have hxx := Hx0.out.trans hxr
      clear hxr hK Hfo Hok Hone Hih Hcp
      go_wp2
      go_ret2
      exact Hall.out _ hxx hno.out
end Go.Proofs.Yteilglljigjefaa

/- The code's Close: the function that calls itself, where no hinge is left. -/
namespace Go.Proofs.Yteilglljigjefaa
open Go.RowKit
theorem eql_Sp (x y : Int) (w : World) : (binOp .eql 27 (.agg #[.int .i64 x, .int .i64 y]) (.agg #[.int .i64 0, .int .i64 0])).run Try.prog w = .ok (.bool (x == 0 && y == 0)) w := by
  by_cases h1 : x = 0 <;> by_cases h2 : y = 0 <;> simp [go_sem, h1, h2]
theorem gap0_eq (p : Ps) (a b : Sp) : ((gapS p a b).x == 0 && (gapS p a b).y == 0) = gap0 p a b := by
  unfold gap0
  cases h : gapS p a b with
  | mk x y =>
    simp [s0]
    rfl
/-- Where a closing function finds what it reads. -/
structure ClE (B0 : World) (gl ga gb gt : Nat) (A : Option Addr) (c np : Nat) (B : Option Addr) (d : Nat) (hs : List Hg) (a b : Sp) : Prop where
  hB : HRow B0 B hs
  l1 : ∀ w', Ext B0 w' → w'.cell? ⟨gl, 1, none⟩ = some (.slice B hs.length d)
  a0 : ∀ w', Ext B0 w' → w'.cell? ⟨ga, 0, none⟩ = some (vint a.x)
  a1 : ∀ w', Ext B0 w' → w'.cell? ⟨ga, 1, none⟩ = some (vint a.y)
  b0 : ∀ w', Ext B0 w' → w'.cell? ⟨gb, 0, none⟩ = some (vint b.x)
  b1 : ∀ w', Ext B0 w' → w'.cell? ⟨gb, 1, none⟩ = some (vint b.y)
  t : ∀ w', Ext B0 w' → w'.rangeAt gt 0 (turns.flatMap tcells)
  ab : spotB a ∧ spotB b
  hh : ∀ h ∈ hs, hingeB h
  nh : hs.length ≤ 3
abbrev cpt (g : Nat) : Value := .pointer (some ⟨g, 0, none⟩)
abbrev cfun (gl ga gb gt gx gf : Nat) : Value := .func (.func 53) #[] #[cpt gx, cpt ga, cpt gb, cpt gt, cpt gf, cpt gl]
/-- The memory that a closing function writes. -/
structure ClS (B0 w : World) (F : Value) (gx gf gs cs n : Nat) (xs : List Int) : Prop where
  own : Own B0 w 3 1 (.slice (some ⟨gs, 0, none⟩) n cs) n (xs.map vint)
  s : Whole w gx #[.slice (some ⟨gs, 0, none⟩) n cs] 30
  f : Whole w gf #[F] 101
theorem ClS.later {B0 w w' : World} {F : Value} {gx gf gs cs n : Nat} {xs : List Int} (h : ClS B0 w F gx gf gs cs n xs) (he : Ext w w') : ClS B0 w' F gx gf gs cs n xs := ⟨h.own.later he, h.s.ext he, h.f.ext he⟩
theorem ClS.set {B0 w : World} {F : Value} {gx gf gs cs n : Nat} {xs : List Int} (h : ClS B0 w F gx gf gs cs n xs) (k : Nat) (x : Int) : ClS B0 (w.setCell ⟨gs, k, none⟩ (.int .i64 x)) F gx gf gs cs n (xs.set k x) := by
  refine ⟨?_, h.s.farCell (fun e => h.own.ne_whole h.s (by decide) (by rw [e]; rfl)) k _, h.f.farCell (fun e => h.own.ne_whole h.f (by decide) (by rw [e]; rfl)) k _⟩
  have := h.own.store k (vint x)
  rw [← List.map_set] at this
  exact this
theorem Ext.grownBy' {w w' : World} (h : Ext w w') (r : Option Nat) : w.grownBy w' r := ⟨h.os, h.tape, h.output, h.le, fun k hk _ => h.block k hk⟩
theorem grownBy_setCell (w : World) (g j : Nat) (v : Value) : w.grownBy (w.setCell ⟨g, j, none⟩ v) (some g) := by
  refine ⟨rfl, rfl, rfl, Nat.le_of_eq (by simp), fun k hk hne => ?_⟩
  rw [heap_setCell_other w _ _ _ (fun e => hne (by rw [e]))]
theorem grownBy_trans {a b c : World} {row : Option Nat} (h : a.grownBy b row) (k : b.grownBy c row) : a.grownBy c row := World.grownBy.trans h k
/-- What a closing function answers. -/
def ClR (B0 w : World) (F : Value) (gx gf gs cs n k : Nat) (xs : List Int) (o : Option (List Nat)) (e : Ending) (w' : World) : Prop :=
  ∃ xs', e = .returned (.bool o.isSome) ∧ ClS B0 w' F gx gf gs cs n xs' ∧ w.grownBy w' (some gs) ∧ xs'.length = xs.length ∧ xs'.take k = xs.take k ∧ ∀ r, o = some r → xs'.drop k = r.map fun (m : Nat) => (m : Int)
set_option maxRecDepth 100000 in
set_option maxHeartbeats 4000000 in
theorem clo_zero {B0 : World} {gl ga gb gt : Nat} {A : Option Addr} {c np : Nat} {B : Option Addr} {d : Nat} {hs : List Hg} {a b : Sp} (hE : ClE B0 gl ga gb gt A c np B d hs a b) (F : Value) (gx gf gs cs : Nat) (p : Ps) (hp : PoseOk p 3) (xs : List Int) (w : World) (hS : ClS B0 w F gx gf gs cs hs.length xs) :
    Calls Try.prog 53 #[.int .i64 hs.length, p.val, cpt gx, cpt ga, cpt gb, cpt gt, cpt gf, cpt gl] w fun e w' => ClR B0 w F gx gf gs cs hs.length hs.length xs (clo a b [] p) e w' := by
  have hfin : ∀ w', Ext w w' → ClR B0 w F gx gf gs cs hs.length hs.length xs (clo a b [] p) (.returned (.bool (gap0 p a b))) w' := fun w' he => by
    have e : clo a b [] p = if gap0 p a b then some [] else none := by unfold clo; rfl
    refine ⟨xs, ?_, hS.later he, Ext.grownBy' he _, rfl, rfl, fun r hr => ?_⟩
    · rw [e]; cases gap0 p a b <;> rfl
    · rw [e] at hr
      cases hg : gap0 p a b with
      | false => rw [hg] at hr; simp at hr
      | true =>
        rw [hg] at hr
        simp only [if_true, Option.some.injEq] at hr
        subst hr
        have hl : xs.length = hs.length := by have := hS.own.len; simpa using this
        simp [hl]
  have hgp := fun w' => gap_any p a b w' (psOk hp) hE.ab.1 hE.ab.2
  have hq := fun w' => eql_Sp (gapS p a b).x (gapS p a b).y w'
  rw [gap0_eq] at hq
  have hex := hS.own.ext
  have s0 : ∀ w', Ext w w' → _ := fun w' he => he.cell (hS.s.cell 0 rfl)
  have a0 : ∀ w', Ext w w' → _ := fun w' he => hE.a0 w' (hex.trans he)
  have a1 : ∀ w', Ext w w' → _ := fun w' he => hE.a1 w' (hex.trans he)
  have b0 : ∀ w', Ext w w' → _ := fun w' he => hE.b0 w' (hex.trans he)
  have b1 : ∀ w', Ext w w' → _ := fun w' he => hE.b1 w' (hex.trans he)
  have Hfin := Lib.hid hfin
  have Hgp := Lib.hid hgp
  clear hfin hgp hE hS hp hex
  generalize gap0 p a b = G at *
  generalize gapS p a b = S at *
  obtain ⟨sx, sy⟩ := S
  obtain ⟨P, Q, X, Y, D⟩ := p
  obtain ⟨ax, ay⟩ := a
  obtain ⟨bx, bY⟩ := b
  generalize hs.length = nh at *
  have kb : Blk (w.alloc (.cells #[vint P, vint Q, vint X, vint Y, vint D] 82)) w.heap.size [vint P, vint Q, vint X, vint Y, vint D] := Blk.new _ _
  have p0 := kb.at_ 0 rfl
  have p1 := kb.at_ 1 rfl
  have p2 := kb.at_ 2 rfl
  have p3 := kb.at_ 3 rfl
  have p4 := kb.at_ 4 rfl
  clear kb
  have hx0 : Ext w (w.alloc (.cells #[vint P, vint Q, vint X, vint Y, vint D] 82)) := (Ext.refl _).alloc _
  go_enter Try.func53, Try.ntmps53
  go_wp2_with (go_at_call 54; refine (Hgp.out _).mono ?_; rintro e w1 ⟨rfl, hx1⟩)
  go_ret
  exact Hfin.out _ (hx0.trans hx1)
end Go.Proofs.Yteilglljigjefaa

/- The code's Close: the function that calls itself, at a hinge. -/
namespace Go.Proofs.Yteilglljigjefaa
open Go.RowKit
theorem wpList_load_tab {ops : Array Oper} {rest : List Oper} {op : Oper} {a : Act} {w : World} {Q : Exit → Act → World → Prop} (hgd : op.guard = none) (x : Operand) (ho : op.op = .load 99 x)
    (b : Nat) (hx : a.eval x = .pointer (some ⟨b, 0, none⟩)) (hc : w.rangeAt b 0 (turns.flatMap tcells)) (h : wpList Try.prog ops Q rest (a.put op.dst tabV) w) : wpList Try.prog ops Q (op :: rest) a w :=
  wpList_load_mid hgd 99 x ho b 0 hx _ _ hc Try.underlying99 rfl (by kernel_rfl) h
theorem set_drop {xs ys : List Int} {n : Nat} {m : Int} {r : List Int} (hn : n < xs.length) (hl : ys.length = xs.length) (ht : ys.take (n + 1) = (xs.set n m).take (n + 1)) (hd : ys.drop (n + 1) = r) : ys.drop n = m :: r ∧ ys.take n = xs.take n := by
  have h1 : ys.take n = xs.take n := by
    have h := congrArg (List.take n) ht
    rw [List.take_take, List.take_take, Nat.min_eq_left (by omega)] at h
    rw [h]
    exact List.take_set_of_le (Nat.le_refl n)
  have hy : n < ys.length := by omega
  have h2 : ys[n]'hy = m := by
    have h := congrArg (fun l : List Int => l[n]?) ht
    simp only [List.getElem?_take, Nat.lt_succ_self, if_true] at h
    rw [List.getElem?_eq_getElem hy, List.getElem?_set_self hn] at h
    simpa using h
  exact ⟨by rw [List.drop_eq_getElem_cons hy, h2, hd], h1⟩
theorem set_keep {xs ys zs : List Int} {n : Nat} {m : Int} (h0 : ys.take n = xs.take n) (ht : zs.take (n + 1) = (ys.set n m).take (n + 1)) : zs.take n = xs.take n := by
  have h := congrArg (List.take n) ht
  rw [List.take_take, List.take_take, Nat.min_eq_left (by omega)] at h
  rw [h, ← h0]
  exact List.take_set_of_le (Nat.le_refl n)
set_option maxRecDepth 100000 in
set_option maxHeartbeats 16000000 in
theorem clo_step {B0 : World} {gl ga gb gt : Nat} {A : Option Addr} {c np : Nat} {B : Option Addr} {d : Nat} {hs : List Hg} {a b : Sp} (hE : ClE B0 gl ga gb gt A c np B d hs a b) (gx gf gs cs n : Nat) (hn : n < hs.length)
    (ih : ∀ (p : Ps) (xs : List Int) (w : World), PoseOk p (n + 1) → ClS B0 w (cfun gl ga gb gt gx gf) gx gf gs cs hs.length xs →
      Calls Try.prog 53 #[.int .i64 ((n + 1 : Nat) : Int), p.val, cpt gx, cpt ga, cpt gb, cpt gt, cpt gf, cpt gl] w fun e w' => ClR B0 w (cfun gl ga gb gt gx gf) gx gf gs cs hs.length (n + 1) xs (clo a b (hs.drop (n + 1)) p) e w')
    (p : Ps) (hp : PoseOk p n) (xs : List Int) (w : World) (hS : ClS B0 w (cfun gl ga gb gt gx gf) gx gf gs cs hs.length xs) :
    Calls Try.prog 53 #[.int .i64 n, p.val, cpt gx, cpt ga, cpt gb, cpt gt, cpt gf, cpt gl] w fun e w' => ClR B0 w (cfun gl ga gb gt gx gf) gx gf gs cs hs.length n xs (clo a b (hs.drop n) p) e w' := by
  have hnh := hE.nh
  have hh := hE.hh (hgA hs n) (by rw [hgA_at hn]; exact List.getElem_mem hn)
  have hdrop : hs.drop n = hgA hs n :: hs.drop (n + 1) := by rw [hgA_at hn]; exact List.drop_eq_getElem_cons hn
  have hok := fun (m : Nat) (hm : m < 36) => flw_ok hp hh hm
  have hfo := fun (m : Nat) (hm : m < 36) (w' : World) => follow_any p (hgA hs n) m n w' hp (by omega) hh hm
  have hix := fun (m : Nat) (hm : m < 36) (w' : World) => index_tab m hm w'
  have hlen : xs.length = hs.length := by have := hS.own.len; simpa using this
  obtain ⟨ad, rfl, c0, c1, c2, c3, c4⟩ := hE.hB.at_ hn
  have l1 := hE.l1
  have ht := hE.t
  rw [hdrop]
  generalize hs.drop (n + 1) = T at *
  generalize hgA hs n = h at *
  have hall : ∀ (w' : World) (xs' : List Int), ClS B0 w' (cfun gl ga gb gt gx gf) gx gf gs cs hs.length xs' → w.grownBy w' (some gs) → xs'.length = xs.length → xs'.take n = xs.take n → (∀ j, j < 36 → clo a b T (flw p h (trn j)) = none) → ClR B0 w (cfun gl ga gb gt gx gf) gx gf gs cs hs.length n xs (clo a b (h :: T) p) (.returned (.bool false)) w' := fun w' xs' h1 h2 h3 h4 h5 => by
    rw [clo_all h5]
    exact ⟨xs', rfl, h1, h2, h3, h4, fun r hr => by cases hr⟩
  have hone : ∀ (w' : World) (ys xs' : List Int) (m : Nat) (r : List Nat), ClS B0 w' (cfun gl ga gb gt gx gf) gx gf gs cs hs.length xs' → w.grownBy w' (some gs) → ys.length = xs.length → ys.take n = xs.take n → m < 36 → (∀ j, j < m → clo a b T (flw p h (trn j)) = none) → clo a b T (flw p h (trn m)) = some r → xs'.length = (ys.set n (m : Int)).length → xs'.take (n + 1) = (ys.set n (m : Int)).take (n + 1) → xs'.drop (n + 1) = r.map (fun (m : Nat) => (m : Int)) → ClR B0 w (cfun gl ga gb gt gx gf) gx gf gs cs hs.length n xs (clo a b (h :: T) p) (.returned (.bool true)) w' := fun w' ys xs' m r h1 h2 h3 h4 h5 h6 h7 h8 h9 h10 => by
    rw [clo_first h5 h6 h7]
    rw [List.length_set] at h8
    obtain ⟨q1, q2⟩ := set_drop (by omega) h8 h9 h10
    refine ⟨xs', rfl, h1, h2, by omega, q2.trans h4, fun r' hr => ?_⟩
    injection hr with hr
    subst hr
    rw [q1]
    rfl
  have Hok := Lib.hid hok
  have Hfo := Lib.hid hfo
  have Hix := Lib.hid hix
  have Hall := Lib.hid hall
  have Hone := Lib.hid hone
  have Hih := Lib.hid ih
  have HS := Lib.hid hS
  have Ht := Lib.hid ht
  have L1 := Lib.hid l1
  have C0 := Lib.hid c0
  have C1 := Lib.hid c1
  have C2 := Lib.hid c2
  have C3 := Lib.hid c3
  have C4 := Lib.hid c4
  clear hok hfo hix hall hone ih hE hS hp hh hdrop ht l1 c0 c1 c2 c3 c4
  obtain ⟨P, Q, X, Y, D⟩ := p
  obtain ⟨⟨hax, hay⟩, ⟨hbx, hby⟩, han⟩ := h
  generalize hs.length = nh at *
  have hnn : (n : Int) < (nh : Int) := by omega
  have hn0 : ((n : Int) == (nh : Int)) = false := by simp; omega
  have en : IntKind.i64.wrap ((n : Int) + 1) = ((n + 1 : Nat) : Int) := by rw [IntKind.wrap_i64]; omega
  have hex := HS.out.own.ext
  have s0 : ∀ w', Ext w w' → _ := fun w' he => he.cell (HS.out.s.cell 0 rfl)
  have hrg : (w.alloc (.cells #[vint P, vint Q, vint X, vint Y, vint D] 82)).rangeAt gt 0 (turns.flatMap tcells) := Ht.out _ (hex.alloc _)
  have Hrg := Lib.hid hrg
  have kb : Whole (w.alloc (.cells #[vint P, vint Q, vint X, vint Y, vint D] 82)) w.heap.size #[vint P, vint Q, vint X, vint Y, vint D] 82 := Whole.new rfl
  have hS0 := HS.out.later ((Ext.refl w).alloc (.cells #[vint P, vint Q, vint X, vint Y, vint D] 82))
  have hg0 := Ext.grownBy' ((Ext.refl w).alloc (.cells #[vint P, vint Q, vint X, vint Y, vint D] 82)) (some gs)
  have H0 := Lib.hid (And.intro kb (And.intro hS0 hg0))
  clear kb hS0 hg0 hrg hex
  go_enter Try.func53, Try.ntmps53
  go_wp2_with (refine wpList_load_tab rfl (.tmp 5) rfl gt rfl Hrg.out ?_)
  obtain ⟨kb, hS0, hg0⟩ := H0.out
  generalize (w.alloc (.cells #[vint P, vint Q, vint X, vint Y, vint D] 82)) = W0 at *
  generalize w.heap.size = gp at *
  clear H0 s0 HS Hrg
  go_loopw [24] (fun i wr => ∃ (m : Nat) (ys : List Int), m ≤ 36 ∧ i = .int .i64 m ∧ Whole wr gp #[vint P, vint Q, vint X, vint Y, vint D] 82 ∧ ClS B0 wr (cfun gl ga gb gt gx gf) gx gf gs cs nh ys ∧ w.grownBy wr (some gs) ∧ ys.length = xs.length ∧ Hid (ys.take n = xs.take n) ∧ Hid (∀ j, j < m → clo a b T (flw ⟨P, Q, X, Y, D⟩ ⟨⟨hax, hay⟩, ⟨hbx, hby⟩, han⟩ (trn j)) = none)) (fun i _ => 36 - (intOf i).toNat)
  case atStart => exact ⟨0, xs, by omega, rfl, kb, hS0, hg0, rfl, Lib.hid rfl, Lib.hid fun j hj => absurd hj (by omega)⟩
  case round =>
    clear kb hS0 hg0
    obtain ⟨m, ys, hm, rfl, hK, hS, hg, hyl, hyt, hno⟩ := hrel
    by_cases hlt : m < 36
    · have hlt2 : (m : Int) < 36 := by omega
      have hix := Hix.out m hlt
      have hfo := Hfo.out m hlt
      have hok := Hok.out m hlt
      have hone := fun (w' : World) (xs' : List Int) (r : List Nat) h1 h2 h7 h8 h9 h10 => Hone.out w' ys xs' m r h1 h2 hyl hyt.out hlt hno.out h7 h8 h9 h10
      have hnext : clo a b T (flw ⟨P, Q, X, Y, D⟩ ⟨⟨hax, hay⟩, ⟨hbx, hby⟩, han⟩ (trn m)) = none → ∀ j, j < m + 1 → clo a b T (flw ⟨P, Q, X, Y, D⟩ ⟨⟨hax, hay⟩, ⟨hbx, hby⟩, han⟩ (trn j)) = none := fun h j hj => by
        rcases Nat.lt_succ_iff_lt_or_eq.1 hj with h1 | rfl
        · exact hno.out j h1
        · exact h
      have Hnext := Lib.hid hnext
      have Hone' := Lib.hid hone
      have Hno := Lib.hid hno
      clear hnext hone hno Hix Hfo Hok Hone
      generalize (flw ⟨P, Q, X, Y, D⟩ ⟨⟨hax, hay⟩, ⟨hbx, hby⟩, han⟩ (trn m)) = p2 at *
      obtain ⟨p2a, p2b, p2c, p2d, p2e⟩ := p2
      generalize trn m = t3 at *
      obtain ⟨ta, tb, tr⟩ := t3
      have Hfo := Lib.hid hfo
      have Hok := Lib.hid hok
      clear hfo hok
      have s0 := hS.s.cell 0 rfl
      have s0' : ∀ w', Ext wr w' → w'.cell? ⟨gx, 0, none⟩ = some (.slice (some ⟨gs, 0, none⟩) nh cs) := fun w' he => he.cell s0
      obtain ⟨x4, hx4⟩ : ∃ x4, (ys.map vint)[n]? = some x4 := ⟨_, List.getElem?_eq_getElem (by rw [List.length_map]; omega)⟩
      have y4 : ∀ w', Ext wr w' → w'.cell? ⟨gs, n, none⟩ = some x4 := fun w' he => he.cell ((hS.own.cell (j := n) (by rw [List.length_map]; omega)).trans hx4)
      have hgs : gs < wr.heap.size := (hS.own.lt (g := gs) rfl).2
      have yf : ∀ w', Ext wr w' → w'.frozen? ⟨gs, n, none⟩ = false := fun w' he => (he.frozen (show (⟨gs, n, none⟩ : Addr).block < wr.heap.size from hgs)).trans (hS.own.free n)
      have hS1 := (hS.later ((Ext.refl wr).alloc (.cells #[vint ta, vint tb, vint tr] 98))).set n m
      have hK1 := (hK.ext ((Ext.refl wr).alloc (.cells #[vint ta, vint tb, vint tr] 98))).farCell (k := gs) (fun e => hS.own.ne_whole hK (by decide) (by rw [e]; rfl)) n (.int .i64 m)
      have hT1 := (Whole.new (w := wr) (cs := #[vint ta, vint tb, vint tr]) (t := 98) rfl).farCell (k := gs) (by omega) n (.int .i64 m)
      have hg1 := (grownBy_trans hg (Ext.grownBy' ((Ext.refl wr).alloc (.cells #[vint ta, vint tb, vint tr] 98)) _)).trans (grownBy_setCell (wr.alloc (.cells #[vint ta, vint tb, vint tr] 98)) gs n (.int .i64 m))
      have H1 := Lib.hid (And.intro hS1 (And.intro hK1 (And.intro hT1 hg1)))
      clear hS hK hg hS1 hK1 hT1 hg1 s0 hx4 hgs
      go_wp2
      obtain ⟨hS1, hK1, hT1, hg1⟩ := H1.out
      generalize hW1 : ((wr.alloc (.cells #[vint ta, vint tb, vint tr] 98)).setCell ⟨gs, n, none⟩ (.int .i64 m)) = W1 at *
      clear H1 s0' y4 yf hW1 hix
      have hex1 := hS1.own.ext
      have p0 : ∀ w', Ext W1 w' → _ := fun w' he => he.cell (hK1.cell 0 rfl)
      have p1 : ∀ w', Ext W1 w' → _ := fun w' he => he.cell (hK1.cell 1 rfl)
      have p2 : ∀ w', Ext W1 w' → _ := fun w' he => he.cell (hK1.cell 2 rfl)
      have p3 : ∀ w', Ext W1 w' → _ := fun w' he => he.cell (hK1.cell 3 rfl)
      have p4 : ∀ w', Ext W1 w' → _ := fun w' he => he.cell (hK1.cell 4 rfl)
      have t0 : ∀ w', Ext W1 w' → _ := fun w' he => he.cell (hT1.cell 0 rfl)
      have t1 : ∀ w', Ext W1 w' → _ := fun w' he => he.cell (hT1.cell 1 rfl)
      have t2 : ∀ w', Ext W1 w' → _ := fun w' he => he.cell (hT1.cell 2 rfl)
      have f0 : ∀ w', Ext W1 w' → _ := fun w' he => he.cell (hS1.f.cell 0 rfl)
      have l1 : ∀ w', Ext W1 w' → _ := fun w' he => L1.out w' (hex1.trans he)
      have c0 : ∀ w', Ext W1 w' → _ := fun w' he => C0.out w' (hex1.trans he)
      have c1 : ∀ w', Ext W1 w' → _ := fun w' he => C1.out w' (hex1.trans he)
      have c2 : ∀ w', Ext W1 w' → _ := fun w' he => C2.out w' (hex1.trans he)
      have c3 : ∀ w', Ext W1 w' → _ := fun w' he => C3.out w' (hex1.trans he)
      have c4 : ∀ w', Ext W1 w' → _ := fun w' he => C4.out w' (hex1.trans he)
      have H1 := Lib.hid (And.intro hS1 (And.intro hK1 hg1))
      clear hS1 hK1 hT1 hg1 hex1 L1 C0 C1 C2 C3 C4
      refine Cg.wp_region_calm (p := Cg.extPre) (fr := (fun _ => false)) 11 (fun _ _ v _ => v = .agg #[vint p2a, vint p2b, vint p2c, vint p2d, vint p2e]) (fun _ _ _ _ _ _ h => h) (by kernel_rfl) (by kernel_rfl) ?_
      simp only [List.take_succ_cons, List.take_zero, List.drop_succ_cons, List.drop_zero]
      refine Cg.calm_quiet Cg.calm_mono_final W1 (fun _ h => h) 10 (by kernel_rfl) ?_
      simp only [List.take_succ_cons, List.take_zero, List.drop_succ_cons, List.drop_zero]
      repeat (go_big_quiet_step (fail))
      refine wpQuiet_nil ?_
      refine Cg.calm_call Cg.calm_mono_final 55 #[.agg #[vint P, vint Q, vint X, vint Y, vint D], .agg #[vint hax, vint hay, vint hbx, vint hby, vint han], .agg #[vint ta, vint tb, vint tr]] rfl (fun w => ?_) (fun w he hF => ?_) ?_
      · go_simp
      · exact (Hfo.out w).mono fun e w'' ⟨he', hx⟩ => ⟨_, he', hx, rfl, fun hf => by cases hf⟩
      rintro _ _ _ rfl _
      simp only [Act.put, List.setIfInBounds_toArray, List.set_cons_succ, List.set_cons_zero]
      refine Cg.calm_nil fun w3 he3 _ => ?_
      have he3 : Ext W1 w3 := he3
      obtain ⟨hS1, hK1, hg1⟩ := H1.out
      have hih := Hih.out ⟨p2a, p2b, p2c, p2d, p2e⟩ _ w3 Hok.out (hS1.later he3)
      have hg3 := grownBy_trans hg1 (Ext.grownBy' he3 _)
      have hK3 := hK1.ext he3
      have hgn : some gp ≠ some gs := fun e => hS1.own.ne_whole hK1 (by decide) (by rw [e]; rfl)
      have H3 := Lib.hid (And.intro hK3 (And.intro hg3 hgn))
      have Hih' := Lib.hid hih
      clear hih hK3 hg3 hgn hS1 hK1 hg1 H1 p0 p1 p2 p3 p4 t0 t1 t2 f0 l1 c0 c1 c2 c3 c4 Hih Hfo Hok
      generalize hr : clo a b T ⟨p2a, p2b, p2c, p2d, p2e⟩ = r at *
      cases r with
      | none =>
        clear hr
        go_wp2_with (go_at_call 53; refine Hih'.out.mono ?_; rintro e w4 ⟨xs4, rfl, hS4, hg4, hl4, ht4, _⟩; simp only [Option.isSome_none])
        obtain ⟨hK3, hg3, hgn⟩ := H3.out
        go_roundw
        case rel => exact ⟨m + 1, xs4, by omega, by go_num, hK3.grown hg4 hgn, hS4, grownBy_trans hg3 hg4, by rw [hl4, List.length_set]; exact hyl, Lib.hid (set_keep hyt.out ht4), Lib.hid (Hnext.out rfl)⟩
        case measure => simp [intOf]; omega
      | some r =>
        clear hr
        go_wp2_with (go_at_call 53; refine Hih'.out.mono ?_; rintro e w4 ⟨xs4, rfl, hS4, hg4, hl4, ht4, hd4⟩; simp only [Option.isSome_some])
        obtain ⟨hK3, hg3, hgn⟩ := H3.out
        go_ret
        exact Hone'.out _ xs4 r hS4 (grownBy_trans hg3 hg4) rfl hl4 ht4 (hd4 r rfl)
    · obtain rfl : m = 36 := by omega
      have HH := Lib.hid (And.intro hS (And.intro hg hyl))
      clear hS hg hK
      go_wp2
      go_ret
      exact Hall.out _ ys HH.out.1 HH.out.2.1 HH.out.2.2 hyt.out hno.out
theorem clo_any {B0 : World} {gl ga gb gt : Nat} {A : Option Addr} {c np : Nat} {B : Option Addr} {d : Nat} {hs : List Hg} {a b : Sp} (hE : ClE B0 gl ga gb gt A c np B d hs a b) (gx gf gs cs : Nat) :
    ∀ (m n : Nat) (p : Ps) (xs : List Int) (w : World), n + m = hs.length → PoseOk p n → ClS B0 w (cfun gl ga gb gt gx gf) gx gf gs cs hs.length xs →
      Calls Try.prog 53 #[.int .i64 (n : Nat), p.val, cpt gx, cpt ga, cpt gb, cpt gt, cpt gf, cpt gl] w fun e w' => ClR B0 w (cfun gl ga gb gt gx gf) gx gf gs cs hs.length n xs (clo a b (hs.drop n) p) e w'
  | 0, n, p, xs, w, hn, hp, hS => by
    obtain rfl : n = hs.length := by omega
    rw [List.drop_length]
    exact clo_zero hE _ gx gf gs cs p (pose_mono hp hE.nh) xs w hS
  | m + 1, n, p, xs, w, hn, hp, hS => clo_step hE gx gf gs cs n (by omega) (fun p' xs' w' hp' hS' => clo_any hE gx gf gs cs m (n + 1) p' xs' w' (by omega) hp' hS') p hp xs w hS
end Go.Proofs.Yteilglljigjefaa

/- The code's Close. -/
namespace Go.Proofs.Yteilglljigjefaa
open Go.RowKit
theorem made_ints (n : Nat) : (madeCells (Value.cells (.int .i64 0)) (n * 1)).toList = (List.replicate n (0 : Int)).map vint := by
  apply List.ext_getElem
  · simp [size_madeCells]
  · intro i h1 h2
    simp [madeCells, Value.cells]
    rw [Nat.mod_one]
    rfl
theorem range_new (w : World) : ∀ w', Ext (w.alloc (.cells (turns.flatMap tcells).toArray 99)) w' → w'.rangeAt w.heap.size 0 (turns.flatMap tcells) := fun w' he j v hv => by
  rw [Nat.zero_add, cell_heap (he.heap (heap_alloc_new w _))]
  simpa using hv
set_option maxRecDepth 100000 in
theorem clo_start {gl ga gb : Nat} {B : Option Addr} {d : Nat} {hs : List Hg} {a b : Sp} (w0 w2 w5 : World) (gs : Nat) (hxw : Ext w0 w2)
    (hB : HRow w2 B hs) (l1 : ∀ w', Ext w2 w' → w'.cell? ⟨gl, 1, none⟩ = some (.slice B hs.length d))
    (a0 : ∀ w', Ext w2 w' → w'.cell? ⟨ga, 0, none⟩ = some (vint a.x)) (a1 : ∀ w', Ext w2 w' → w'.cell? ⟨ga, 1, none⟩ = some (vint a.y))
    (b0 : ∀ w', Ext w2 w' → w'.cell? ⟨gb, 0, none⟩ = some (vint b.x)) (b1 : ∀ w', Ext w2 w' → w'.cell? ⟨gb, 1, none⟩ = some (vint b.y))
    (ha : spotB a) (hb : spotB b) (hh : ∀ h ∈ hs, hingeB h) (hn : hs.length ≤ 3)
    (ho : Own (w2.alloc (.cells (turns.flatMap tcells).toArray 99)) w5 3 1 (.slice (some ⟨gs, 0, none⟩) hs.length hs.length) hs.length (madeCells (Value.cells (.int .i64 0)) (hs.length * 1)).toList) :
    Calls Try.prog 53 #[.int .i64 0, .agg #[.int .i64 1, .int .i64 0, .int .i64 0, .int .i64 0, .int .i64 1], cpt w5.heap.size, cpt ga, cpt gb, cpt w2.heap.size, cpt (w5.heap.size + 1), cpt gl]
      ((w5.alloc (.cells #[.slice (some ⟨gs, 0, none⟩) hs.length hs.length] 30)).alloc (.cells #[cfun gl ga gb w2.heap.size w5.heap.size (w5.heap.size + 1)] 101))
      fun e w' => ∃ xs, e = .returned (.bool (clo a b hs pose0).isSome) ∧ w'.cell? ⟨w5.heap.size, 0, none⟩ = some (.slice (some ⟨gs, 0, none⟩) hs.length hs.length) ∧ Own w0 w' 3 1 (.slice (some ⟨gs, 0, none⟩) hs.length hs.length) hs.length (xs.map vint) ∧ ∀ r, clo a b hs pose0 = some r → xs = r.map fun (m : Nat) => (m : Int) := by
  have hx : Ext w2 (w2.alloc (.cells (turns.flatMap tcells).toArray 99)) := (Ext.refl _).alloc _
  have hE : ClE (w2.alloc (.cells (turns.flatMap tcells).toArray 99)) gl ga gb w2.heap.size none 0 0 B d hs a b :=
    ⟨hB.ext hx, fun w' he => l1 w' (hx.trans he), fun w' he => a0 w' (hx.trans he), fun w' he => a1 w' (hx.trans he), fun w' he => b0 w' (hx.trans he), fun w' he => b1 w' (hx.trans he), range_new w2, ⟨ha, hb⟩, hh, hn⟩
  rw [made_ints] at ho
  have hS : ClS (w2.alloc (.cells (turns.flatMap tcells).toArray 99)) ((w5.alloc (.cells #[.slice (some ⟨gs, 0, none⟩) hs.length hs.length] 30)).alloc (.cells #[cfun gl ga gb w2.heap.size w5.heap.size (w5.heap.size + 1)] 101)) (cfun gl ga gb w2.heap.size w5.heap.size (w5.heap.size + 1)) w5.heap.size (w5.heap.size + 1) gs hs.length hs.length (List.replicate hs.length 0) :=
    ⟨(ho.alloc _).alloc _, (Whole.new rfl).ext ((Ext.refl _).alloc _), Whole.new (by simp)⟩
  refine (clo_any hE w5.heap.size (w5.heap.size + 1) gs hs.length hs.length 0 pose0 _ _ (by omega) pose0_ok hS).mono fun e w' h => ?_
  obtain ⟨xs, h1, h2, h3, h4, h5, h6⟩ := h
  rw [List.drop_zero] at h1 h6
  exact ⟨xs, h1, h2.s.cell 0 rfl, h2.own.since (hxw.trans hx), fun r hr => by simpa using h6 r hr⟩
def cloE (ps : List (List Sp)) (hs : List Hg) (a b : Sp) : Int := if askE ps hs a b = 0 then (if (clo a b hs pose0).isSome then 0 else 52) else askE ps hs a b
def cloL (ps : List (List Sp)) (hs : List Hg) (a b : Sp) : List Int := if askE ps hs a b = 0 then (((clo a b hs pose0).getD []).map fun (m : Nat) => (m : Int)) else []
theorem cloL_len {hs : List Hg} {a b : Sp} (h : (clo a b hs pose0).isSome = true) : ((clo a b hs pose0).getD []).length = hs.length := by
  cases e : clo a b hs pose0 with
  | none => rw [e] at h; cases h
  | some r => exact clo_len e
end Go.Proofs.Yteilglljigjefaa

/- The reference's Close. -/
namespace Go.Proofs.Yteilglljigjefaa
open Go.RowKit
theorem closing_any (A : Option Addr) (c np : Nat) (B : Option Addr) (d : Nat) (hs : List Hg) (a b : Sp) (hh0 : ∀ h ∈ hs, hingeB h) (hnh : hs.length ≤ 3) (ha : spotB a) (hb : spotB b) :
    ∀ (m : Nat) (R : Option Addr) (rc n : Nat) (rs : List Int) (p : Ps) (w : World), n = rs.length → n + m = hs.length → PoseOk p n → HRow w B hs → Ints w R rs →
      Calls Try.prog 57 #[.agg #[.slice A np c, .slice B hs.length d], a.val, b.val, .slice R n rc, p.val] w fun e w' => ClQ w R rs (clo a b (hs.drop n) p) e w'
  | 0, R, rc, n, rs, p, w, hn, hm, hp, hB, hr => by
    subst hn
    rw [show hs.drop rs.length = [] from List.drop_eq_nil_of_le (by omega)]
    exact closing_zero A c np B d hs.length a b R rc rs p w (pose_mono hp (by omega)) ha hb hr (by omega)
  | m + 1, R, rc, n, rs, p, w, hn, hm, hp, hB, hr => by
    subst hn
    exact closing_step A c np B d hs a b hh0 hnh R rc rs p w hp hB hr (by omega) fun R' rc' rs' p' w' h1 h2 h3 h4 => closing_any A c np B d hs a b hh0 hnh ha hb m R' rc' (rs.length + 1) rs' p' w' h1.symm (by omega) h2 (hB.ext h3) h4
/-- A slice that reads as a list of numbers. -/
def IntsIn (w w' : World) (v : Value) (l : List Int) : Prop := (∃ X x, v = .slice X l.length x ∧ Ints w' X l) ∧ Ext w w'
set_option maxRecDepth 100000 in
set_option maxHeartbeats 8000000 in
theorem close_ref (A : Option Addr) (c : Nat) (ps : List (List Sp)) (B : Option Addr) (d : Nat) (hs : List Hg) (a b : Sp) (w : World) (hL : Lk w A ps B hs) :
    Calls Try.prog 20 #[.agg #[.slice A ps.length c, .slice B hs.length d], a.val, b.val] w fun e w' => ∃ v, e = .returned (.tuple #[v, .int .i64 (cloE ps hs a b)]) ∧ IntsIn w w' v (cloL ps hs a b) := by
  have hak := fun w' (he : Ext w w') => asked_ref A c ps B d hs a b w' (hL.ext he)
  rcases ask_cases ps hs a b with ⟨h1, h2, h3, h4⟩ | ⟨h4, _⟩
  · rw [h4] at hak
    have hcl := fun (w2 : World) (he : Ext w w2) => closing_any A c ps.length B d hs a b h1.hinges h1.nh h2 h3 hs.length none 0 0 [] pose0 w2 rfl (by omega) pose0_ok (hL.hB.ext he) (fun k hk => by simp at hk)
    simp only [List.drop_zero] at hcl
    have hcl := fun (w2 : World) (he : Ext w w2) => (hcl w2 he).mono (R' := fun e w' => ∃ V, e = .returned (.tuple #[V, .bool (clo a b hs pose0).isSome]) ∧ Ext w2 w' ∧ ∀ r, clo a b hs pose0 = some r → ∃ X x, V = .slice X r.length x ∧ Ints w' X (r.map fun (m : Nat) => (m : Int))) fun e w' ⟨V, e1, e2, e3⟩ => ⟨V, e1, e2, fun r hr => by
      obtain ⟨X, x, q1, q2, _⟩ := e3 r hr
      exact ⟨X, x, by simpa using q1, by simpa using q2⟩⟩
    unfold cloE cloL
    rw [if_pos h4, if_pos h4]
    clear h4 h1 h2 h3 hL
    have Hak := Lib.hid hak
    have Hcl := Lib.hid hcl
    clear hak hcl
    generalize clo a b hs pose0 = o at *
    generalize ps.length = np at *
    generalize hs.length = nh at *
    cases o with
    | none =>
      simp only [Option.isSome_none] at Hcl
      obtain ⟨ax, ay⟩ := a
      obtain ⟨bx, bY⟩ := b
      have kl : Blk (((w.alloc (.cells #[.slice A np c, .slice B nh d] 25)).alloc (.cells #[vint ax, vint ay] 27)).alloc (.cells #[vint bx, vint bY] 27)) w.heap.size [.slice A np c, .slice B nh d] := (Blk.new _ _).ext (((Ext.refl _).alloc _).alloc _)
      have ka : Blk (((w.alloc (.cells #[.slice A np c, .slice B nh d] 25)).alloc (.cells #[vint ax, vint ay] 27)).alloc (.cells #[vint bx, vint bY] 27)) (w.heap.size + 1) [vint ax, vint ay] := (Blk.new' (cs := #[vint ax, vint ay]) (by simp)).ext ((Ext.refl _).alloc _)
      have kb : Blk (((w.alloc (.cells #[.slice A np c, .slice B nh d] 25)).alloc (.cells #[vint ax, vint ay] 27)).alloc (.cells #[vint bx, vint bY] 27)) (w.heap.size + 1 + 1) [vint bx, vint bY] := Blk.new' (cs := #[vint bx, vint bY]) (by simp)
      have l0 := kl.at_ 0 rfl
      have l1 := kl.at_ 1 rfl
      have a0 := ka.at_ 0 rfl
      have a1 := ka.at_ 1 rfl
      have b0 := kb.at_ 0 rfl
      have b1 := kb.at_ 1 rfl
      have hx0 : Ext w (((w.alloc (.cells #[.slice A np c, .slice B nh d] 25)).alloc (.cells #[vint ax, vint ay] 27)).alloc (.cells #[vint bx, vint bY] 27)) := (((Ext.refl _).alloc _).alloc _).alloc _
      have Hx0 := Lib.hid hx0
      clear kl ka kb hx0
      go_enter Try.func20, Try.ntmps20
      go_wp2_with (first
        | (go_at_call 56; refine (Hak.out _ Hx0.out).mono ?_; rintro e w1 ⟨rfl, hx1⟩; have hxx := Hx0.out.trans hx1; replace l0 : ∀ w', Ext w1 w' → _ := fun w' he => l0 w' (hx1.trans he); replace l1 : ∀ w', Ext w1 w' → _ := fun w' he => l1 w' (hx1.trans he); replace a0 : ∀ w', Ext w1 w' → _ := fun w' he => a0 w' (hx1.trans he); replace a1 : ∀ w', Ext w1 w' → _ := fun w' he => a1 w' (hx1.trans he); replace b0 : ∀ w', Ext w1 w' → _ := fun w' he => b0 w' (hx1.trans he); replace b1 : ∀ w', Ext w1 w' → _ := fun w' he => b1 w' (hx1.trans he))
        | (go_at_call 57; refine (Hcl.out _ hxx).mono ?_; rintro e w2 ⟨V, rfl, hx2, _⟩))
      go_ret2
      exact ⟨_, rfl, ⟨none, 0, rfl, fun k hk => by simp at hk⟩, hxx.trans hx2⟩
    | some r =>
      simp only [Option.isSome_some] at Hcl
      obtain ⟨ax, ay⟩ := a
      obtain ⟨bx, bY⟩ := b
      have kl : Blk (((w.alloc (.cells #[.slice A np c, .slice B nh d] 25)).alloc (.cells #[vint ax, vint ay] 27)).alloc (.cells #[vint bx, vint bY] 27)) w.heap.size [.slice A np c, .slice B nh d] := (Blk.new _ _).ext (((Ext.refl _).alloc _).alloc _)
      have ka : Blk (((w.alloc (.cells #[.slice A np c, .slice B nh d] 25)).alloc (.cells #[vint ax, vint ay] 27)).alloc (.cells #[vint bx, vint bY] 27)) (w.heap.size + 1) [vint ax, vint ay] := (Blk.new' (cs := #[vint ax, vint ay]) (by simp)).ext ((Ext.refl _).alloc _)
      have kb : Blk (((w.alloc (.cells #[.slice A np c, .slice B nh d] 25)).alloc (.cells #[vint ax, vint ay] 27)).alloc (.cells #[vint bx, vint bY] 27)) (w.heap.size + 1 + 1) [vint bx, vint bY] := Blk.new' (cs := #[vint bx, vint bY]) (by simp)
      have l0 := kl.at_ 0 rfl
      have l1 := kl.at_ 1 rfl
      have a0 := ka.at_ 0 rfl
      have a1 := ka.at_ 1 rfl
      have b0 := kb.at_ 0 rfl
      have b1 := kb.at_ 1 rfl
      have hx0 : Ext w (((w.alloc (.cells #[.slice A np c, .slice B nh d] 25)).alloc (.cells #[vint ax, vint ay] 27)).alloc (.cells #[vint bx, vint bY] 27)) := (((Ext.refl _).alloc _).alloc _).alloc _
      have Hx0 := Lib.hid hx0
      clear kl ka kb hx0
      go_enter Try.func20, Try.ntmps20
      go_wp2_with (first
        | (go_at_call 56; refine (Hak.out _ Hx0.out).mono ?_; rintro e w1 ⟨rfl, hx1⟩; have hxx := Hx0.out.trans hx1; replace l0 : ∀ w', Ext w1 w' → _ := fun w' he => l0 w' (hx1.trans he); replace l1 : ∀ w', Ext w1 w' → _ := fun w' he => l1 w' (hx1.trans he); replace a0 : ∀ w', Ext w1 w' → _ := fun w' he => a0 w' (hx1.trans he); replace a1 : ∀ w', Ext w1 w' → _ := fun w' he => a1 w' (hx1.trans he); replace b0 : ∀ w', Ext w1 w' → _ := fun w' he => b0 w' (hx1.trans he); replace b1 : ∀ w', Ext w1 w' → _ := fun w' he => b1 w' (hx1.trans he))
        | (go_at_call 57; refine (Hcl.out _ hxx).mono ?_; rintro e w2 ⟨V, rfl, hx2, hV⟩; obtain ⟨X, x, rfl, hX⟩ := hV r rfl; clear hV))
      go_ret2
      exact ⟨_, rfl, ⟨X, x, by simp, by simpa using hX⟩, hxx.trans hx2⟩
  · have h5 : ¬ askE ps hs a b = 0 := by omega
    unfold cloE cloL
    rw [if_neg h5, if_neg h5]
    have hne : (askE ps hs a b != 0) = true := by simp; omega
    have Hak := Lib.hid hak
    clear hak hL h4 h5
    generalize askE ps hs a b = E at *
    generalize ps.length = np at *
    generalize hs.length = nh at *
    obtain ⟨ax, ay⟩ := a
    obtain ⟨bx, bY⟩ := b
    have kl : Blk (((w.alloc (.cells #[.slice A np c, .slice B nh d] 25)).alloc (.cells #[vint ax, vint ay] 27)).alloc (.cells #[vint bx, vint bY] 27)) w.heap.size [.slice A np c, .slice B nh d] := (Blk.new _ _).ext (((Ext.refl _).alloc _).alloc _)
    have ka : Blk (((w.alloc (.cells #[.slice A np c, .slice B nh d] 25)).alloc (.cells #[vint ax, vint ay] 27)).alloc (.cells #[vint bx, vint bY] 27)) (w.heap.size + 1) [vint ax, vint ay] := (Blk.new' (cs := #[vint ax, vint ay]) (by simp)).ext ((Ext.refl _).alloc _)
    have kb : Blk (((w.alloc (.cells #[.slice A np c, .slice B nh d] 25)).alloc (.cells #[vint ax, vint ay] 27)).alloc (.cells #[vint bx, vint bY] 27)) (w.heap.size + 1 + 1) [vint bx, vint bY] := Blk.new' (cs := #[vint bx, vint bY]) (by simp)
    have l0 := kl.at_ 0 rfl
    have l1 := kl.at_ 1 rfl
    have a0 := ka.at_ 0 rfl
    have a1 := ka.at_ 1 rfl
    have b0 := kb.at_ 0 rfl
    have b1 := kb.at_ 1 rfl
    have hx0 : Ext w (((w.alloc (.cells #[.slice A np c, .slice B nh d] 25)).alloc (.cells #[vint ax, vint ay] 27)).alloc (.cells #[vint bx, vint bY] 27)) := (((Ext.refl _).alloc _).alloc _).alloc _
    have Hx0 := Lib.hid hx0
    clear kl ka kb hx0
    go_enter Try.func20, Try.ntmps20
    go_wp2_with (go_at_call 56; refine (Hak.out _ Hx0.out).mono ?_; rintro e w1 ⟨rfl, hx1⟩; have hxx := Hx0.out.trans hx1)
    go_ret2
    exact ⟨_, rfl, ⟨none, 0, rfl, fun k hk => by simp at hk⟩, hxx⟩
end Go.Proofs.Yteilglljigjefaa
