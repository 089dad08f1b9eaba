/- Lists of clutches: by the reference. -/
import Derived.Laws.CopyOwn
import Derived.Test.YtbclbcldplmppaaProg
import Derived.Test.YtbclbcldplmppaaMv03
namespace Go.Proofs.Ytbclbcldplmppaa
open Go.RowKit

def kindI (ms : List Msh) (y : Int) : Int := match ms[y.toNat]? with
  | some x => x.kind
  | none => 0
theorem kindI_eq {ms : List Msh} {n : Nat} (h : n < ms.length) : kindI ms (n : Int) = ms[n].kind := by simp [kindI, h]
def okAtP (all : List Int) (ms : List Msh) (i : Nat) : Prop := (0 ≤ getI all i ∧ getI all i < ms.length) ∧ (0 < i → getI all (i - 1) < getI all i) ∧ kindI ms (getI all i) = 7
def clutchP (all : List Int) (ms : List Msh) : Prop := ∀ i, i < all.length → okAtP all ms i
instance (all : List Int) (ms : List Msh) (i : Nat) : Decidable (okAtP all ms i) := by unfold okAtP; infer_instance
instance (all : List Int) (ms : List Msh) : Decidable (clutchP all ms) := by unfold clutchP; infer_instance
def clutchB (all : List Int) (ms : List Msh) : Bool := decide (clutchP all ms)

set_option maxRecDepth 100000 in
set_option maxHeartbeats 4000000 in
theorem clutches_any (A : Option Addr) (c : Nat) (s : Int) (ms : List Msh) (B : Option Addr) (d : Nat) (all : List Int) (w : World) (hA : MRow w A ms) (hB : Ints w B all) (hl : ms.length ≤ 1000) (hl2 : all.length ≤ 1000000) :
    Calls Try.prog 71 #[.agg #[.int .i64 s, .slice A ms.length c], .slice B all.length d] w fun e w' => e = .returned (.bool (clutchB all ms)) ∧ Ext w w' := by
  have ha := fun k (hk : k < ms.length) => hA.at_ hk
  have hb := fun (k : Nat) (hk : k < all.length) => hB.some0 (by omega)
  have hgood : (∀ i, i < all.length → okAtP all ms i) → true = clutchB all ms := fun h => (decide_eq_true (show clutchP all ms from h)).symm
  have hbad : ∀ i, i < all.length → ¬ okAtP all ms i → false = clutchB all ms := fun i hi h => (decide_eq_false (fun h' : clutchP all ms => h (h' i hi))).symm
  have hok : ∀ i, okAtP all ms i ↔ (0 ≤ getI all i ∧ getI all i < ms.length) ∧ (0 < i → getI all (i - 1) < getI all i) ∧ kindI ms (getI all i) = 7 := fun i => Iff.rfl
  have hki := fun (n : Nat) (h : n < ms.length) => kindI_eq h
  have Ha := Lib.hid ha
  have Hb := Lib.hid hb
  have Hgood := Lib.hid hgood
  have Hbad := Lib.hid hbad
  have Hok := Lib.hid hok
  have Hki := Lib.hid hki
  clear ha hb hA hB hgood hbad hok hki
  generalize clutchB all ms = res at *
  obtain ⟨m, hm⟩ : ∃ m, m = ms.length := ⟨_, rfl⟩
  rw [← hm] at hl Hok ⊢
  have Hm := Lib.hid hm
  clear hm
  generalize all.length = q at *
  have hsub : IntKind.i64.wrap ((m : Int) - 1) = (m : Int) - 1 := by rw [IntKind.wrap_i64]; omega
  go_enter Try.func71, Try.ntmps71
  go_wp2
  have hexb : Ext w (w.alloc (.cells #[.int .i64 s, .slice A m c] 41)) := by simp
  have hp1 : ∀ w', Ext (w.alloc (.cells #[.int .i64 s, .slice A m c] 41)) w' → w'.cell? ⟨w.heap.size, 1, none⟩ = some (.slice A m c) := fun w' he => he.cell (by simp)
  generalize hwb : w.alloc (.cells #[.int .i64 s, .slice A m c] 41) = wb at *
  clear hwb
  have Hexb := Lib.hid hexb
  have Hp1 := Lib.hid hp1
  clear hexb hp1
  go_loopw [5] (fun i wr => ∃ k : Nat, k ≤ q ∧ i = .int .i64 k ∧ Ext wb wr ∧ ∀ j, j < k → okAtP all ms j) (fun i _ => q - (intOf i).toNat)
  case atStart => exact ⟨0, by omega, rfl, Ext.refl _, fun j hj => by omega⟩
  case round =>
    obtain ⟨k, hk, rfl, hex, hall⟩ := hrel
    have Hall := Lib.hid hall
    clear hall
    have hexw := Hexb.out.trans hex
    have hp1 : ∀ w', Ext wr w' → w'.cell? ⟨w.heap.size, 1, none⟩ = some (.slice A m c) := fun w' he => Hp1.out w' (hex.trans he)
    by_cases hlt : k < q
    · obtain ⟨bd, rfl, hcell, hcell0⟩ := Hb.out k hlt
      have hstep : okAtP all ms k → ∀ j, j < k + 1 → okAtP all ms j := fun h j hj => by
        by_cases e : j = k
        · subst e; exact h
        · exact Hall.out j (by omega)
      have hbad : ¬ okAtP all ms k → false = res := Hbad.out k hlt
      rw [Hok.out] at hstep hbad
      have hck : ∀ w', Ext wr w' → w'.cell? (bd.add k) = some (vint (getI all k)) := fun w' he => hcell k hlt w' (hexw.trans he)
      have hkq : (k : Int) < (q : Int) := by omega
      by_cases hin : 0 ≤ getI all k ∧ getI all k < m
      · have hwi : withinB (getI all k) 0 ((m : Int) - 1) = true := withinB_true.2 (by omega)
        obtain ⟨n, hn⟩ : ∃ n : Nat, getI all k = n := ⟨(getI all k).toNat, by omega⟩
        rw [hn] at hck hin hwi hstep hbad
        have hnm : n < m := by omega
        have hnp : n < ms.length := by rw [← Hm.out]; exact hnm
        obtain ⟨ad, rfl, q0, _⟩ := Ha.out n hnp
        have q0 : ∀ w', Ext wr w' → _ := fun w' he => q0 w' (hexw.trans he)
        rw [Hki.out n hnp] at hstep hbad
        generalize ms[n].kind = kind at *
        have hnm' : (n : Int) < (m : Int) := by omega
        have Hst := Lib.hid hstep
        have Hbad' := Lib.hid hbad
        clear hstep hbad Ha Hb Hok Hki Hbad
        by_cases hk0 : k = 0
        · subst hk0
          have hck : ∀ w', Ext wr w' → w'.cell? bd = some (vint n) := fun w' he => by have := hck w' he; rwa [add_zero_] at this
          clear hcell hcell0
          cases h7 : (kind != 7)
          · have h7' : kind = 7 := by simpa using h7
            go_wp2
            refine wp_region_calm 38 (fun _ _ v _ => v = .bool true) (fun _ _ _ _ _ _ h => h) (by kernel_rfl) (by kernel_rfl) ?_
            simp only [List.take_succ_cons, List.take_zero, List.drop_succ_cons, List.drop_zero]
            refine calm_quiet calm_mono_final 8 (by kernel_rfl) ?_
            simp only [List.take_succ_cons, List.take_zero, List.drop_succ_cons, List.drop_zero]
            repeat (go_big_quiet_step (fail))
            refine wpQuiet_nil ?_
            refine calm_call calm_mono_final 54 #[vint n, .int .i64 0, .int .i64 ((m : Int) - 1)] rfl (fun w => ?_) (fun w he _ => ?_) ?_
            · go_simp
            · exact (within_any _ _ _ _).mono fun e w'' ⟨he', hx⟩ => ⟨_, he', by rw [hx]; exact Ext.refl _, by rw [hwi]⟩
            intro v2 _ _ hv2
            have hv2' : v2 = .bool true := hv2
            subst hv2'
            clear hv2
            simp only [Act.put, List.setIfInBounds_toArray, List.set_cons_succ, List.set_cons_zero]
            refine calm_quiet calm_mono_final 29 (by kernel_rfl) ?_
            simp only [List.take_succ_cons, List.take_zero, List.drop_succ_cons, List.drop_zero]
            repeat (go_big_quiet_step (fail))
            refine wpQuiet_nil ?_
            refine calm_nil fun w3 he3 hF => ?_
            clear hF
            go_wp2
            go_roundw
            case rel => exact ⟨1, by omega, by go_num, hex.trans he3, Hst.out ⟨hin, fun h => absurd h (by omega), h7'⟩⟩
            case measure => simp [intOf]; omega
          · have h7' : ¬ kind = 7 := by simpa using h7
            go_wp2
            refine wp_region_calm 38 (fun _ _ v _ => v = .bool true) (fun _ _ _ _ _ _ h => h) (by kernel_rfl) (by kernel_rfl) ?_
            simp only [List.take_succ_cons, List.take_zero, List.drop_succ_cons, List.drop_zero]
            refine calm_quiet calm_mono_final 8 (by kernel_rfl) ?_
            simp only [List.take_succ_cons, List.take_zero, List.drop_succ_cons, List.drop_zero]
            repeat (go_big_quiet_step (fail))
            refine wpQuiet_nil ?_
            refine calm_call calm_mono_final 54 #[vint n, .int .i64 0, .int .i64 ((m : Int) - 1)] rfl (fun w => ?_) (fun w he _ => ?_) ?_
            · go_simp
            · exact (within_any _ _ _ _).mono fun e w'' ⟨he', hx⟩ => ⟨_, he', by rw [hx]; exact Ext.refl _, by rw [hwi]⟩
            intro v2 _ _ hv2
            have hv2' : v2 = .bool true := hv2
            subst hv2'
            clear hv2
            simp only [Act.put, List.setIfInBounds_toArray, List.set_cons_succ, List.set_cons_zero]
            refine calm_quiet calm_mono_final 29 (by kernel_rfl) ?_
            simp only [List.take_succ_cons, List.take_zero, List.drop_succ_cons, List.drop_zero]
            repeat (go_big_quiet_step (fail))
            refine wpQuiet_nil ?_
            refine calm_nil fun w3 he3 hF => ?_
            clear hF
            go_wp2
            go_ret
            exact ⟨ret_b (Hbad'.out (fun h => h7' h.2.2)), hexw.trans he3⟩
        · have g1 : decide ((0 : Int) < (k : Int)) = true := by simp; omega
          have hck1 : ∀ w', Ext wr w' → w'.cell? (bd.add (k - 1)) = some (vint (getI all (k - 1))) := fun w' he => hcell (k - 1) (by omega) w' (hexw.trans he)
          have e1 : IntKind.i64.wrap ((k : Int) - 1) = ((k - 1 : Nat) : Int) := by rw [IntKind.wrap_i64]; omega
          have hk1q : ((k - 1 : Nat) : Int) < (q : Int) := by omega
          have hkpos : 0 < k := by omega
          clear hcell hcell0 hk0
          generalize getI all (k - 1) = y0 at *
          cases g2 : decide ((n : Int) ≤ y0)
          · have g2' : y0 < n := by simpa using g2
            cases h7 : (kind != 7)
            · have h7' : kind = 7 := by simpa using h7
              go_wp2
              refine wp_region_calm 38 (fun _ _ v _ => v = .bool true) (fun _ _ _ _ _ _ h => h) (by kernel_rfl) (by kernel_rfl) ?_
              simp only [List.take_succ_cons, List.take_zero, List.drop_succ_cons, List.drop_zero]
              refine calm_quiet calm_mono_final 8 (by kernel_rfl) ?_
              simp only [List.take_succ_cons, List.take_zero, List.drop_succ_cons, List.drop_zero]
              repeat (go_big_quiet_step (fail))
              refine wpQuiet_nil ?_
              refine calm_call calm_mono_final 54 #[vint n, .int .i64 0, .int .i64 ((m : Int) - 1)] rfl (fun w => ?_) (fun w he _ => ?_) ?_
              · go_simp
              · exact (within_any _ _ _ _).mono fun e w'' ⟨he', hx⟩ => ⟨_, he', by rw [hx]; exact Ext.refl _, by rw [hwi]⟩
              intro v2 _ _ hv2
              have hv2' : v2 = .bool true := hv2
              subst hv2'
              clear hv2
              simp only [Act.put, List.setIfInBounds_toArray, List.set_cons_succ, List.set_cons_zero]
              refine calm_quiet calm_mono_final 29 (by kernel_rfl) ?_
              simp only [List.take_succ_cons, List.take_zero, List.drop_succ_cons, List.drop_zero]
              repeat (go_big_quiet_step (fail))
              refine wpQuiet_nil ?_
              refine calm_nil fun w3 he3 hF => ?_
              clear hF
              go_wp2
              go_roundw
              case rel => exact ⟨k + 1, by omega, by go_num, hex.trans he3, Hst.out ⟨hin, fun _ => g2', h7'⟩⟩
              case measure => simp [intOf]; omega
            · have h7' : ¬ kind = 7 := by simpa using h7
              go_wp2
              refine wp_region_calm 38 (fun _ _ v _ => v = .bool true) (fun _ _ _ _ _ _ h => h) (by kernel_rfl) (by kernel_rfl) ?_
              simp only [List.take_succ_cons, List.take_zero, List.drop_succ_cons, List.drop_zero]
              refine calm_quiet calm_mono_final 8 (by kernel_rfl) ?_
              simp only [List.take_succ_cons, List.take_zero, List.drop_succ_cons, List.drop_zero]
              repeat (go_big_quiet_step (fail))
              refine wpQuiet_nil ?_
              refine calm_call calm_mono_final 54 #[vint n, .int .i64 0, .int .i64 ((m : Int) - 1)] rfl (fun w => ?_) (fun w he _ => ?_) ?_
              · go_simp
              · exact (within_any _ _ _ _).mono fun e w'' ⟨he', hx⟩ => ⟨_, he', by rw [hx]; exact Ext.refl _, by rw [hwi]⟩
              intro v2 _ _ hv2
              have hv2' : v2 = .bool true := hv2
              subst hv2'
              clear hv2
              simp only [Act.put, List.setIfInBounds_toArray, List.set_cons_succ, List.set_cons_zero]
              refine calm_quiet calm_mono_final 29 (by kernel_rfl) ?_
              simp only [List.take_succ_cons, List.take_zero, List.drop_succ_cons, List.drop_zero]
              repeat (go_big_quiet_step (fail))
              refine wpQuiet_nil ?_
              refine calm_nil fun w3 he3 hF => ?_
              clear hF
              go_wp2
              go_ret
              exact ⟨ret_b (Hbad'.out (fun h => h7' h.2.2)), hexw.trans he3⟩
          · have g2' : (n : Int) ≤ y0 := by simpa using g2
            go_wp2
            refine wp_region_calm 38 (fun _ _ v _ => v = .bool true) (fun _ _ _ _ _ _ h => h) (by kernel_rfl) (by kernel_rfl) ?_
            simp only [List.take_succ_cons, List.take_zero, List.drop_succ_cons, List.drop_zero]
            refine calm_quiet calm_mono_final 8 (by kernel_rfl) ?_
            simp only [List.take_succ_cons, List.take_zero, List.drop_succ_cons, List.drop_zero]
            repeat (go_big_quiet_step (fail))
            refine wpQuiet_nil ?_
            refine calm_call calm_mono_final 54 #[vint n, .int .i64 0, .int .i64 ((m : Int) - 1)] rfl (fun w => ?_) (fun w he _ => ?_) ?_
            · go_simp
            · exact (within_any _ _ _ _).mono fun e w'' ⟨he', hx⟩ => ⟨_, he', by rw [hx]; exact Ext.refl _, by rw [hwi]⟩
            intro v2 _ _ hv2
            have hv2' : v2 = .bool true := hv2
            subst hv2'
            clear hv2
            simp only [Act.put, List.setIfInBounds_toArray, List.set_cons_succ, List.set_cons_zero]
            refine calm_quiet calm_mono_final 29 (by kernel_rfl) ?_
            simp only [List.take_succ_cons, List.take_zero, List.drop_succ_cons, List.drop_zero]
            repeat (go_big_quiet_step (fail))
            refine wpQuiet_nil ?_
            refine calm_nil fun w3 he3 hF => ?_
            clear hF
            go_wp2
            go_ret
            exact ⟨ret_b (Hbad'.out (fun h => by have := h.2.1 hkpos; omega)), hexw.trans he3⟩
      · have hwi : withinB (getI all k) 0 ((m : Int) - 1) = false := withinB_false.2 (by omega)
        have Hbad' := Lib.hid hbad
        clear hstep hbad hcell hcell0 Ha Hb Hok Hki Hbad
        generalize getI all k = y at *
        go_wp2
        refine wp_region_calm 38 (fun _ _ v _ => v = .bool false) (fun _ _ _ _ _ _ h => h) (by kernel_rfl) (by kernel_rfl) ?_
        simp only [List.take_succ_cons, List.take_zero, List.drop_succ_cons, List.drop_zero]
        refine calm_quiet calm_mono_final 8 (by kernel_rfl) ?_
        simp only [List.take_succ_cons, List.take_zero, List.drop_succ_cons, List.drop_zero]
        repeat (go_big_quiet_step (fail))
        refine wpQuiet_nil ?_
        refine calm_call calm_mono_final 54 #[vint y, .int .i64 0, .int .i64 ((m : Int) - 1)] rfl (fun w => ?_) (fun w he _ => ?_) ?_
        · go_simp
        · exact (within_any _ _ _ _).mono fun e w'' ⟨he', hx⟩ => ⟨_, he', by rw [hx]; exact Ext.refl _, by rw [hwi]⟩
        intro v2 _ _ hv2
        have hv2' : v2 = .bool false := hv2
        subst hv2'
        clear hv2
        simp only [Act.put, List.setIfInBounds_toArray, List.set_cons_succ, List.set_cons_zero]
        refine calm_quiet calm_mono_final 29 (by kernel_rfl) ?_
        simp only [List.take_succ_cons, List.take_zero, List.drop_succ_cons, List.drop_zero]
        repeat (go_big_quiet_step (fail))
        refine wpQuiet_nil ?_
        refine calm_nil fun w3 he3 hF => ?_
        clear hF
        go_wp2
        go_ret
        exact ⟨ret_b (Hbad'.out (fun h => hin h.1)), hexw.trans he3⟩
    · go_wp2
      go_ret
      exact ⟨ret_b (Hgood.out (fun j hj => Hall.out j (by omega))), hexw⟩
end Go.Proofs.Ytbclbcldplmppaa

/- Open: by both sides. -/
namespace Go.Proofs.Ytbclbcldplmppaa
open Go.RowKit

def opOk (s : Int) (ms : List Msh) (all : List Int) : Bool := trainB s ms && clutchB all ms
def opS (s : Int) (ms : List Msh) (all : List Int) : Int := if opOk s ms all = true then s else 0
def opL (s : Int) (ms : List Msh) (all : List Int) : List Msh := if opOk s ms all = true then keepL all ms ms.length else []
def opE (s : Int) (ms : List Msh) (all : List Int) : Int := if trainB s ms = true then (if clutchB all ms = true then 0 else 2) else 40

/-- A train in new memory, and an error's number. -/
def Train2Res (w : World) (s : Int) (l : List Msh) (code : Int) (e : Ending) (w' : World) : Prop :=
  ∃ v, e = .returned (.tuple #[.agg #[.int .i64 s, v], .int .i64 code]) ∧ Own w w' 57 6 v l.length (cellsL l)

theorem Own.ne {w1 w : World} {e : TypeId} {size : Nat} {v : Value} {n : Nat} {xs : List Value} (h : Own w1 w e size v n xs) {g : Nat} (hg : g < w1.heap.size) : v.ownBlock ≠ some g := fun e => by
  have := (h.2.lt g e).1
  omega

/-- A struct of two cells in new memory, in which the result is stored. -/
theorem Own.result2 {w wc w1 : World} {v : Value} {n : Nat} {xs : List Value} {g4 : Nat} (hw : Ext w wc) (h : Own wc w1 57 6 v n xs) (h4 : w.heap.size ≤ g4) (hl : g4 < wc.heap.size) {u0 u1 : Value} (c0 : w1.cell? ⟨g4, 0, none⟩ = some u0) (c1 : w1.cell? ⟨g4, 1, none⟩ = some u1) (x : Value) :
    (w1.setCell ⟨g4, 0, none⟩ x).cell? ⟨g4, 0, none⟩ = some x ∧ ((w1.setCell ⟨g4, 0, none⟩ x).setCell ⟨g4, 1, none⟩ v).cell? ⟨g4, 1, none⟩ = some v ∧
      Own w ((w1.setCell ⟨g4, 0, none⟩ x).setCell ⟨g4, 1, none⟩ v) 57 6 v n xs := by
  have hne := h.ne hl
  refine ⟨World.cell?_setCell_same _ _ _ c0, World.cell?_setCell_same _ _ _ (u := u1) (by rw [World.cell?_setCell_other _ _ _ _ (by simp)]; exact c1), ?_⟩
  exact ((h.since hw).other (p := ⟨g4, 0, none⟩) h4 hne x).other (p := ⟨g4, 1, none⟩) h4 hne v

/-- The result is nil: nothing is the call's own. -/
theorem Ext.result2 {w w1 : World} {g4 : Nat} (hw : Ext w w1) (h4 : w.heap.size ≤ g4) {u0 u1 : Value} (c0 : w1.cell? ⟨g4, 0, none⟩ = some u0) (c1 : w1.cell? ⟨g4, 1, none⟩ = some u1) (x y : Value) :
    (w1.setCell ⟨g4, 0, none⟩ x).cell? ⟨g4, 0, none⟩ = some x ∧ ((w1.setCell ⟨g4, 0, none⟩ x).setCell ⟨g4, 1, none⟩ y).cell? ⟨g4, 1, none⟩ = some y ∧
      Ext w ((w1.setCell ⟨g4, 0, none⟩ x).setCell ⟨g4, 1, none⟩ y) :=
  ⟨World.cell?_setCell_same _ _ _ c0, World.cell?_setCell_same _ _ _ (u := u1) (by rw [World.cell?_setCell_other _ _ _ _ (by simp)]; exact c1), (hw.setCell h4 x).setCell h4 y⟩

set_option maxRecDepth 100000 in
set_option maxHeartbeats 4000000 in
theorem open_ref (A : Option Addr) (c : Nat) (s : Int) (ms : List Msh) (B : Option Addr) (d : Nat) (all : List Int) (w : World) (hA : MRow w A ms) (hB : Ints w B all) (hl : ms.length ≤ 1000) (hl2 : all.length ≤ 1000000) :
    Calls Try.prog 29 #[.agg #[.int .i64 s, .slice A ms.length c], .slice B all.length d] w (Train2Res w (opS s ms all) (opL s ms all) (opE s ms all)) := by
  have cv := fun (w' : World) (he : Ext w w') => train_ref A c s ms w' (hA.ext he) (by omega)
  have cc := fun (w' : World) (he : Ext w w') => clutches_any A c s ms B d all w' (hA.ext he) (hB.ext he) hl hl2
  have cw := fun (w' : World) (he : Ext w w') => without_any A c s ms B d all w' (hA.ext he) (hB.ext he) hl hl2
  have Cv := Lib.hid cv
  have Cc := Lib.hid cc
  have Cw' := Lib.hid cw
  have h1 : opS s ms all = if trainB s ms = true then (if clutchB all ms = true then s else 0) else 0 := by unfold opS opOk; cases trainB s ms <;> cases clutchB all ms <;> rfl
  have h2 : opL s ms all = if trainB s ms = true then (if clutchB all ms = true then keepL all ms ms.length else []) else [] := by unfold opL opOk; cases trainB s ms <;> cases clutchB all ms <;> rfl
  have h3 : opE s ms all = if trainB s ms = true then (if clutchB all ms = true then 0 else 2) else 40 := rfl
  clear cv cc cw hA hB
  generalize opS s ms all = rs at *
  generalize opL s ms all = rl at *
  generalize opE s ms all = re at *
  generalize trainB s ms = tb at *
  generalize clutchB all ms = cb at *
  generalize keepL all ms ms.length = l at *
  generalize ms.length = m at *
  generalize all.length = q at *
  have H1 := Lib.hid h1
  have H2 := Lib.hid h2
  have H3 := Lib.hid h3
  clear h1 h2 h3
  have hx0 : Ext w ((w.alloc (.cells #[.int .i64 s, .slice A m c] 41)).alloc (.cells #[.int .i64 0, .slice none 0 0] 41)) := by simp
  have hc0 : ∀ w', Ext ((w.alloc (.cells #[.int .i64 s, .slice A m c] 41)).alloc (.cells #[.int .i64 0, .slice none 0 0] 41)) w' → w'.cell? ⟨w.heap.size + 1, 0, none⟩ = some (.int .i64 0) := fun w' he => he.cell (by simp)
  have hc1 : ∀ w', Ext ((w.alloc (.cells #[.int .i64 s, .slice A m c] 41)).alloc (.cells #[.int .i64 0, .slice none 0 0] 41)) w' → w'.cell? ⟨w.heap.size + 1, 1, none⟩ = some (.slice none 0 0) := fun w' he => he.cell (by simp)
  have hf : ∀ j, ∀ w', Ext ((w.alloc (.cells #[.int .i64 s, .slice A m c] 41)).alloc (.cells #[.int .i64 0, .slice none 0 0] 41)) w' → w'.frozen? ⟨w.heap.size + 1, j, none⟩ = false := fun j w' he => by
    rw [he.frozen (by simp)]; simp
  have hp0 : ∀ w', Ext ((w.alloc (.cells #[.int .i64 s, .slice A m c] 41)).alloc (.cells #[.int .i64 0, .slice none 0 0] 41)) w' → w'.cell? ⟨w.heap.size, 0, none⟩ = some (.int .i64 s) := fun w' he => he.cell (by simp)
  have hp1 : ∀ w', Ext ((w.alloc (.cells #[.int .i64 s, .slice A m c] 41)).alloc (.cells #[.int .i64 0, .slice none 0 0] 41)) w' → w'.cell? ⟨w.heap.size, 1, none⟩ = some (.slice A m c) := fun w' he => he.cell (by simp)
  have hsz : w.heap.size + 1 < ((w.alloc (.cells #[.int .i64 s, .slice A m c] 41)).alloc (.cells #[.int .i64 0, .slice none 0 0] 41)).heap.size := by simp only [World.alloc, Array.size_push]; omega
  go_enter Try.func29, Try.ntmps29
  cases tb
  · go_wp2_with (go_at_call 45; refine (Cv.out _ hx0).mono ?_; rintro e w1 ⟨rfl, hx1⟩; have hc0' := hc0 w1 hx1; have hc1' := hc1 w1 hx1; have hf0' := hf 0 w1 hx1; have hf1' := hf 1 w1 hx1)
    obtain ⟨e0, e1, hex⟩ := Ext.result2 (w := w) (g4 := w.heap.size + 1) (hx0.trans hx1) (by omega) hc0' hc1' (.int .i64 0) (.slice none 0 0)
    refine bodyPost_ret (by simp [results, Try.results29, go_sem, e0, e1]; try rfl) rfl ?_
    refine ⟨.slice none 0 0, ?_, ?_⟩
    · rw [H1.out, H3.out]; rfl
    · rw [H2.out]; exact Own.nil' hex _ _
  · cases cb
    · go_wp2_with (first
        | (go_at_call 45; refine (Cv.out _ hx0).mono ?_; rintro e w1 ⟨rfl, hx1⟩; have hp0' := hp0 w1 hx1; have hp1' := hp1 w1 hx1)
        | (go_at_call 71; refine (Cc.out _ (hx0.trans hx1)).mono ?_; rintro e w2 ⟨rfl, hx2⟩; have hc0' := hc0 w2 (hx1.trans hx2); have hc1' := hc1 w2 (hx1.trans hx2); have hf0' := hf 0 w2 (hx1.trans hx2); have hf1' := hf 1 w2 (hx1.trans hx2)))
      obtain ⟨e0, e1, hex⟩ := Ext.result2 (w := w) (g4 := w.heap.size + 1) (hx0.trans (hx1.trans hx2)) (by omega) hc0' hc1' (.int .i64 0) (.slice none 0 0)
      refine bodyPost_ret (by simp [results, Try.results29, go_sem, e0, e1]; try rfl) rfl ?_
      refine ⟨.slice none 0 0, ?_, ?_⟩
      · rw [H1.out, H3.out]; rfl
      · rw [H2.out]; exact Own.nil' hex _ _
    · go_wp2_with (first
        | (go_at_call 45; refine (Cv.out _ hx0).mono ?_; rintro e w1 ⟨rfl, hx1⟩; have hp0' := hp0 w1 hx1; have hp1' := hp1 w1 hx1)
        | (go_at_call 71; refine (Cc.out _ (hx0.trans hx1)).mono ?_; rintro e w2 ⟨rfl, hx2⟩; have hp0' := hp0 w2 (hx1.trans hx2); have hp1' := hp1 w2 (hx1.trans hx2))
        | (go_at_call 72; refine (Cw'.out _ (hx0.trans (hx1.trans hx2))).mono ?_; rintro e w3 ⟨v, rfl, hown⟩; obtain ⟨Av, cv, rfl⟩ := hown.form; have hx3 := hown.ext; have hc0' := hc0 w3 (hx1.trans (hx2.trans hx3)); have hc1' := hc1 w3 (hx1.trans (hx2.trans hx3)); have hf0' := hf 0 w3 (hx1.trans (hx2.trans hx3)); have hf1' := hf 1 w3 (hx1.trans (hx2.trans hx3))))
      obtain ⟨e0, e1, hown2⟩ := hown.result2 (w := w) (g4 := w.heap.size + 1) (hx0.trans (hx1.trans hx2)) (by omega) (Nat.lt_of_lt_of_le hsz (hx1.trans hx2).le) hc0' hc1' (.int .i64 s)
      refine bodyPost_ret (by simp [results, Try.results29, go_sem, e0, e1]; try rfl) rfl ?_
      refine ⟨.slice Av l.length cv, ?_, ?_⟩
      · rw [H1.out, H3.out]; rfl
      · rw [H2.out]; exact hown2
end Go.Proofs.Ytbclbcldplmppaa

/- Open: by the code. -/
namespace Go.Proofs.Ytbclbcldplmppaa
open Go.RowKit

set_option maxRecDepth 100000 in
set_option maxHeartbeats 4000000 in
theorem open_train (A : Option Addr) (c : Nat) (s : Int) (ms : List Msh) (B : Option Addr) (d : Nat) (all : List Int) (w : World) (hA : MRow w A ms) (hB : Ints w B all) (hl : ms.length ≤ 1000) (hl2 : all.length ≤ 1000000) :
    Calls Try.prog 28 #[.agg #[.int .i64 s, .slice A ms.length c], .slice B all.length d] w (Train2Res w (opS s ms all) (opL s ms all) (opE s ms all)) := by
  have cv := fun (w' : World) (he : Ext w w') => check_any A c s ms w' (hA.ext he) (by omega)
  have cw := fun (w' : World) (he : Ext w w') => open_any A c s ms B d all w' (hA.ext he) (hB.ext he) hl hl2
  have Cv := Lib.hid cv
  have ha := fun k (hk : k < ms.length) => hA.at_ hk
  have hb := fun (k : Nat) (hk : k < all.length) => hB.some0 (by omega)
  have hgood : (∀ i, i < all.length → okAtP all ms i) → true = clutchB all ms := fun h => (decide_eq_true (show clutchP all ms from h)).symm
  have hbad : ∀ i, i < all.length → ¬ okAtP all ms i → false = clutchB all ms := fun i hi h => (decide_eq_false (fun h' : clutchP all ms => h (h' i hi))).symm
  have hok : ∀ i, okAtP all ms i ↔ (0 ≤ getI all i ∧ getI all i < ms.length) ∧ (0 < i → getI all (i - 1) < getI all i) ∧ kindI ms (getI all i) = 7 := fun i => Iff.rfl
  have hki := fun (n : Nat) (h : n < ms.length) => kindI_eq h
  have Ha := Lib.hid ha
  have Hb := Lib.hid hb
  have Hgood := Lib.hid hgood
  have Hbad := Lib.hid hbad
  have Hok := Lib.hid hok
  have Hki := Lib.hid hki
  have hte : trainE s ms = if trainB s ms = true then 0 else 40 := rfl
  have Cw' := Lib.hid cw
  have h1 : opS s ms all = if trainB s ms = true then (if clutchB all ms = true then s else 0) else 0 := by unfold opS opOk; cases trainB s ms <;> cases clutchB all ms <;> rfl
  have h2 : opL s ms all = if trainB s ms = true then (if clutchB all ms = true then keepL all ms ms.length else []) else [] := by unfold opL opOk; cases trainB s ms <;> cases clutchB all ms <;> rfl
  have h3 : opE s ms all = if trainB s ms = true then (if clutchB all ms = true then 0 else 2) else 40 := rfl
  clear cv cw hA hB ha hb hgood hbad hok hki
  generalize opS s ms all = rs at *
  generalize opL s ms all = rl at *
  generalize opE s ms all = re at *
  rw [hte] at Cv
  clear hte
  generalize trainB s ms = tb at *
  generalize clutchB all ms = cb at *
  generalize keepL all ms ms.length = l at *
  obtain ⟨m, hm⟩ : ∃ m, m = ms.length := ⟨_, rfl⟩
  rw [← hm] at hl Hok Cv Cw' ⊢
  have Hm := Lib.hid hm
  clear hm
  generalize all.length = q at *
  have H1 := Lib.hid h1
  have H2 := Lib.hid h2
  have H3 := Lib.hid h3
  clear h1 h2 h3
  have hx0 : Ext w ((w.alloc (.cells #[.int .i64 s, .slice A m c] 41)).alloc (.cells #[.int .i64 0, .slice none 0 0] 41)) := by simp
  have hc0 : ∀ w', Ext ((w.alloc (.cells #[.int .i64 s, .slice A m c] 41)).alloc (.cells #[.int .i64 0, .slice none 0 0] 41)) w' → w'.cell? ⟨w.heap.size + 1, 0, none⟩ = some (.int .i64 0) := fun w' he => he.cell (by simp)
  have hc1 : ∀ w', Ext ((w.alloc (.cells #[.int .i64 s, .slice A m c] 41)).alloc (.cells #[.int .i64 0, .slice none 0 0] 41)) w' → w'.cell? ⟨w.heap.size + 1, 1, none⟩ = some (.slice none 0 0) := fun w' he => he.cell (by simp)
  have hf : ∀ j, ∀ w', Ext ((w.alloc (.cells #[.int .i64 s, .slice A m c] 41)).alloc (.cells #[.int .i64 0, .slice none 0 0] 41)) w' → w'.frozen? ⟨w.heap.size + 1, j, none⟩ = false := fun j w' he => by
    rw [he.frozen (by simp)]; simp
  have hp0 : ∀ w', Ext ((w.alloc (.cells #[.int .i64 s, .slice A m c] 41)).alloc (.cells #[.int .i64 0, .slice none 0 0] 41)) w' → w'.cell? ⟨w.heap.size, 0, none⟩ = some (.int .i64 s) := fun w' he => he.cell (by simp)
  have hp1 : ∀ w', Ext ((w.alloc (.cells #[.int .i64 s, .slice A m c] 41)).alloc (.cells #[.int .i64 0, .slice none 0 0] 41)) w' → w'.cell? ⟨w.heap.size, 1, none⟩ = some (.slice A m c) := fun w' he => he.cell (by simp)
  have hsz : w.heap.size + 1 < ((w.alloc (.cells #[.int .i64 s, .slice A m c] 41)).alloc (.cells #[.int .i64 0, .slice none 0 0] 41)).heap.size := by simp only [World.alloc, Array.size_push]; omega
  go_enter Try.func28, Try.ntmps28
  cases tb
  · simp only [Bool.false_eq_true, if_false] at Cv
    go_wp2_with (go_at_call 24; refine (Cv.out _ hx0).mono ?_; rintro e w1 ⟨rfl, hx1⟩; have hc0' := hc0 w1 hx1; have hc1' := hc1 w1 hx1; have hf0' := hf 0 w1 hx1; have hf1' := hf 1 w1 hx1)
    obtain ⟨e0, e1, hex⟩ := Ext.result2 (w := w) (g4 := w.heap.size + 1) (hx0.trans hx1) (by omega) hc0' hc1' (.int .i64 0) (.slice none 0 0)
    refine bodyPost_ret (by simp [results, Try.results28, go_sem, e0, e1]; try rfl) rfl ?_
    refine ⟨.slice none 0 0, ?_, ?_⟩
    · rw [H1.out, H3.out]; rfl
    · rw [H2.out]; exact Own.nil' hex _ _
  · simp only [if_true] at Cv
    go_wp2_with (go_at_call 24; refine (Cv.out _ hx0).mono ?_; rintro e w1 ⟨rfl, hx1⟩)
    have Hc0 := Lib.hid hc0
    have Hc1 := Lib.hid hc1
    have Hf := Lib.hid hf
    have Hp0 := Lib.hid hp0
    have Hp1 := Lib.hid hp1
    have Hx0 := Lib.hid hx0
    have Hsz := Lib.hid hsz
    have Hx1 := Lib.hid hx1
    clear hc0 hc1 hf hp0 hp1 hx0 hsz hx1
    go_loop [17] (fun i => ∃ k : Nat, k ≤ q ∧ i = .int .i64 k ∧ ∀ j, j < k → okAtP all ms j) (fun i => q - (intOf i).toNat)
    case atStart => exact ⟨0, by omega, rfl, fun j hj => by omega⟩
    case round =>
      obtain ⟨k, hk, rfl, hall⟩ := hrel
      have Hall := Lib.hid hall
      clear hall
      have hexw := Hx0.out.trans Hx1.out
      have hp1 := Hp1.out w1 Hx1.out
      by_cases hlt : k < q
      · obtain ⟨bd, rfl, hcell, hcell0⟩ := Hb.out k hlt
        have hstep : okAtP all ms k → ∀ j, j < k + 1 → okAtP all ms j := fun h j hj => by
          by_cases e : j = k
          · subst e; exact h
          · exact Hall.out j (by omega)
        have hbad : ¬ okAtP all ms k → false = cb := Hbad.out k hlt
        rw [Hok.out] at hstep hbad
        have hck := hcell k hlt w1 hexw
        have hc0' := Hc0.out w1 Hx1.out
        have hc1' := Hc1.out w1 Hx1.out
        have hf0' := Hf.out 0 w1 Hx1.out
        have hf1' := Hf.out 1 w1 Hx1.out
        by_cases hin : 0 ≤ getI all k ∧ getI all k < m
        · obtain ⟨n, hn⟩ : ∃ n : Nat, getI all k = n := ⟨(getI all k).toNat, by omega⟩
          rw [hn] at hck hin hstep hbad
          have hnm : n < m := by omega
          have hnp : n < ms.length := by rw [← Hm.out]; exact hnm
          obtain ⟨ad, rfl, q0, _⟩ := Ha.out n hnp
          have q0 := q0 w1 hexw
          rw [Hki.out n hnp] at hstep hbad
          generalize ms[n].kind = kind at *
          have d1 : decide ((n : Int) < 0) = false := by simp
          have d2 : decide ((m : Int) ≤ (n : Int)) = false := by simp; omega
          have Hst := Lib.hid hstep
          have Hbad' := Lib.hid hbad
          clear hstep hbad Ha Hb Hok Hki Hbad
          by_cases hk0 : k = 0
          · subst hk0
            have hck : w1.cell? bd = some (vint n) := by rwa [add_zero_] at hck
            clear hcell hcell0
            cases h7 : (kind != 7)
            · have h7' : kind = 7 := by simpa using h7
              go_wp2
              go_round
              case rel => exact ⟨1, by omega, by go_num, Hst.out ⟨hin, fun h => absurd h (by omega), h7'⟩⟩
              case measure => simp [intOf]; omega
            · have h7' : ¬ kind = 7 := by simpa using h7
              have hcb : false = cb := Hbad'.out (fun h => h7' h.2.2)
              subst hcb
              go_wp2
              all_goals
                obtain ⟨e0, e1, hex⟩ := Ext.result2 (w := w) (g4 := w.heap.size + 1) (Hx0.out.trans Hx1.out) (by omega) hc0' hc1' (.int .i64 0) (.slice none 0 0)
                refine bodyPost_ret (by simp [results, Try.results28, go_sem, e0, e1]; try rfl) rfl ?_
                refine ⟨.slice none 0 0, ?_, ?_⟩
                · rw [H1.out, H3.out]; rfl
                · rw [H2.out]; exact Own.nil' hex _ _
          · have g1 : decide ((0 : Int) < (k : Int)) = true := by simp; omega
            have hck1 := hcell (k - 1) (by omega) w1 hexw
            have e1 : IntKind.i64.wrap ((k : Int) - 1) = ((k - 1 : Nat) : Int) := by rw [IntKind.wrap_i64]; omega
            have hk1q : ((k - 1 : Nat) : Int) < (q : Int) := by omega
            have hk1q' : k - 1 < q := by omega
            have hkpos : 0 < k := by omega
            clear hcell hcell0 hk0
            generalize getI all (k - 1) = y0 at *
            cases g2 : decide ((n : Int) ≤ y0)
            · have g2' : y0 < n := by simpa using g2
              cases h7 : (kind != 7)
              · have h7' : kind = 7 := by simpa using h7
                go_wp2
                go_round
                case rel => exact ⟨k + 1, by omega, by go_num, Hst.out ⟨hin, fun _ => g2', h7'⟩⟩
                case measure => simp [intOf]; omega
              · have h7' : ¬ kind = 7 := by simpa using h7
                have hcb : false = cb := Hbad'.out (fun h => h7' h.2.2)
                subst hcb
                go_wp2
                all_goals
                  obtain ⟨e0, e1, hex⟩ := Ext.result2 (w := w) (g4 := w.heap.size + 1) (Hx0.out.trans Hx1.out) (by omega) hc0' hc1' (.int .i64 0) (.slice none 0 0)
                  refine bodyPost_ret (by simp [results, Try.results28, go_sem, e0, e1]; try rfl) rfl ?_
                  refine ⟨.slice none 0 0, ?_, ?_⟩
                  · rw [H1.out, H3.out]; rfl
                  · rw [H2.out]; exact Own.nil' hex _ _
            · have g2' : (n : Int) ≤ y0 := by simpa using g2
              have hcb : false = cb := Hbad'.out (fun h => by have := h.2.1 hkpos; omega)
              subst hcb
              go_wp2
              all_goals
                obtain ⟨e0, e1, hex⟩ := Ext.result2 (w := w) (g4 := w.heap.size + 1) (Hx0.out.trans Hx1.out) (by omega) hc0' hc1' (.int .i64 0) (.slice none 0 0)
                refine bodyPost_ret (by simp [results, Try.results28, go_sem, e0, e1]; try rfl) rfl ?_
                refine ⟨.slice none 0 0, ?_, ?_⟩
                · rw [H1.out, H3.out]; rfl
                · rw [H2.out]; exact Own.nil' hex _ _
        · have hb' := hbad (fun h => hin h.1)
          have Hbad' := Lib.hid hbad
          clear hstep hbad hcell hcell0 Ha Hb Hok Hki Hbad
          generalize getI all k = y at *
          have hg : (decide (y < 0) || decide ((m : Int) ≤ y)) = true := by simp; omega
          have hcb : false = cb := Hbad'.out (fun h => hin h.1)
          subst hcb
          go_wp2
          all_goals
            obtain ⟨e0, e1, hex⟩ := Ext.result2 (w := w) (g4 := w.heap.size + 1) (Hx0.out.trans Hx1.out) (by omega) hc0' hc1' (.int .i64 0) (.slice none 0 0)
            refine bodyPost_ret (by simp [results, Try.results28, go_sem, e0, e1]; try rfl) rfl ?_
            refine ⟨.slice none 0 0, ?_, ?_⟩
            · rw [H1.out, H3.out]; rfl
            · rw [H2.out]; exact Own.nil' hex _ _
      · have hcb : true = cb := Hgood.out (fun j hj => Hall.out j (by omega))
        have hp0 := Hp0.out w1 Hx1.out
        subst hcb
        go_wp2_with (
          (go_at_call 70; refine (Cw'.out _ (Hx0.out.trans Hx1.out)).mono ?_; rintro e w3 ⟨v, rfl, hown⟩; obtain ⟨Av, cv, rfl⟩ := hown.form; have hx3 := Hx1.out.trans hown.ext; have hc0' := Hc0.out w3 hx3; have hc1' := Hc1.out w3 hx3; have hf0' := Hf.out 0 w3 hx3; have hf1' := Hf.out 1 w3 hx3))
        obtain ⟨e0, e1, hown2⟩ := hown.result2 (w := w) (g4 := w.heap.size + 1) (Hx0.out.trans Hx1.out) (by omega) (Nat.lt_of_lt_of_le Hsz.out Hx1.out.le) hc0' hc1' (.int .i64 s)
        refine bodyPost_ret (by simp [results, Try.results28, go_sem, e0, e1]; try rfl) rfl ?_
        refine ⟨.slice Av l.length cv, ?_, ?_⟩
        · rw [H1.out, H3.out]; rfl
        · rw [H2.out]; exact hown2
end Go.Proofs.Ytbclbcldplmppaa

/- Lines: a shaft's factor; a line in new memory. -/
namespace Go.Proofs.Ytbclbcldplmppaa
open Go.RowKit

/-- Block g is new since w, and holds the numbers xs. -/
def NewInts (w w' : World) (g : Nat) (xs : List Int) : Prop := Ext w w' ∧ w.heap.size ≤ g ∧ w'.heap[g]? = some (.cells (xs.map vint).toArray 3)
abbrev sl (g n : Nat) : Value := .slice (some ⟨g, 0, none⟩) n n

section
variable {w w' : World} {g : Nat} {xs : List Int}
theorem NewInts.own (h : NewInts w w' g xs) (hx : xs.length ≤ maxLen) : Own w w' 3 1 (sl g xs.length) xs.length (xs.map vint) :=
  ⟨h.1, by simp, .inr ⟨g, xs.length, _, rfl, h.2.1, h.2.2, by omega, hx, by simp, by simp [← List.map_take]⟩⟩
theorem NewInts.ext (h : NewInts w w' g xs) : Ext w w' := h.1
theorem NewInts.later {w2 : World} (h : NewInts w w' g xs) (he : Ext w' w2) : NewInts w w2 g xs := ⟨h.1.trans he, h.2.1, he.heap h.2.2⟩
theorem NewInts.since {w0 : World} (h : NewInts w w' g xs) (he : Ext w0 w) : NewInts w0 w' g xs := ⟨he.trans h.1, Nat.le_trans he.le h.2.1, h.2.2⟩
theorem NewInts.lt (h : NewInts w w' g xs) : g < w'.heap.size := (Array.getElem?_eq_some_iff.1 h.2.2).1
theorem NewInts.new (h : NewInts w w' g xs) : Cf.New (sl g xs.length) w w' := ⟨g, rfl, h.2.1, h.lt⟩
theorem NewInts.cell (h : NewInts w w' g xs) {k : Nat} (hk : k < xs.length) : w'.cell? ⟨g, k, none⟩ = some (vint (getI xs k)) := by
  simp [World.cell?, h.2.2, hk, getI]
theorem NewInts.ints (h : NewInts w w' g xs) : Ints w' (some ⟨g, 0, none⟩) xs := by
  have := row_heap h.2.2
  simpa [Ints] using this
/-- From the row that 'make' has laid. -/
theorem NewInts.of_own {n : Nat} (h : Own w w' 3 1 (sl g n) n (xs.map vint)) : NewInts w w' g xs := by
  obtain ⟨he, hl, h2⟩ := h
  rcases h2 with ⟨h1, _⟩ | ⟨g', cap, cur, hv, hb, hh, hn, hc, hs, ht⟩
  · cases h1
  · simp only [sl, Value.slice.injEq, Option.some.injEq, Addr.mk.injEq, and_true, true_and] at hv
    obtain ⟨rfl, rfl⟩ := hv
    refine ⟨he, hb, ?_⟩
    have : cur.toList = xs.map vint := by
      rw [← ht, List.take_of_length_le]
      simp only [Array.length_toList, hs]
      omega
    rw [hh, ← this]
end

theorem splice_all {cur cs : List Value} (h : cur.length = cs.length) : splice cur 0 cs = cs := by
  simp [splice, ← h]

theorem src_ints {w w2 : World} {A : Option Addr} {xs : List Int} (hA : Ints w A xs) (he : Ext w w2) (hp : 0 < (xs.map vint).length) : ∃ ad, A = some ad ∧ ∀ j v, (xs.map vint)[j]? = some v → w2.cell? (ad.add j) = some v := by
  have hA := hA.ext he
  obtain ⟨ad, ha, _⟩ := hA 0 hp
  refine ⟨ad, ha, fun j v hv => ?_⟩
  obtain ⟨ad', ha', hc⟩ := hA j (List.getElem?_eq_some_iff.1 hv).1
  rw [ha] at ha'
  injection ha' with ha'
  subst ha'
  exact hc.trans hv

def TwinRes (w : World) (xs : List Int) (e : Ending) (w' : World) : Prop := ∃ g, e = .returned (sl g xs.length) ∧ NewInts w w' g xs

set_option maxRecDepth 100000 in
set_option maxHeartbeats 1000000 in
theorem twin_any (A : Option Addr) (c : Nat) (xs : List Int) (w : World) (hA : Ints w A xs) (hx : xs.length ≤ 1000000) :
    Calls Try.prog 94 #[.slice A xs.length c] w (TwinRes w xs) := by
  obtain ⟨n, hn⟩ : ∃ n, n = xs.length := ⟨_, rfl⟩
  rw [← hn]
  rw [← hn] at hx
  have Hn := Lib.hid hn
  clear hn
  go_enter Try.func94, Try.ntmps94
  go_wp2_with (first
    | (refine own_make (w1 := w) int_elem rfl _ _ rfl Try.underlying94 _ n rfl rfl (by omega) (by unfold maxLen; omega) (Ext.refl _) ?_; intro w2 hown hx2; rw [made_ints] at hown; have hnew := NewInts.of_own hown)
    | (refine wpList_copy_splice rfl _ _ 94 94 rfl 3 Try.underlying94 (by kernel_rfl) _ _ _ _ _ _ rfl rfl w.heap.size 0 ((List.replicate n 0).map vint) 3 hnew.2.2 (xs.map vint) (by have := Hn.out; rw [List.length_map, ← this]; exact (Nat.min_self n).symm) (fun hp => ⟨rfl, src_ints hA hx2 hp⟩) (by have := Hn.out; rw [List.length_map, List.length_map, List.length_replicate, ← this]; omega) (by intro v hv; simp at hv; obtain ⟨x, _, rfl⟩ := hv; rfl) w.heap.size w hnew.1 (Nat.le_refl _) ?_; intro w3 hw3 hb3))
  refine bodyPost_ret (by simp [results, Try.results94, go_sem]; try rfl) rfl ?_
  have hn := Hn.out
  refine ⟨w.heap.size, by rw [hn], hb3, Nat.le_refl _, ?_⟩
  have := hw3.out
  rw [splice_all (by simp [hn])] at this
  exact this
end Go.Proofs.Ytbclbcldplmppaa

/- Rows of equations in the call's own memory. No program in sight but the table of types. -/
namespace Go.Proofs.Ytbclbcldplmppaa
open Go.RowKit

theorem row_elem : ElemInfo 117 (.agg #[.slice none 0 0, .slice none 0 0]) 2 48 := ⟨info_parts (by kernel_rfl), rfl, by decide⟩

/-- An equation: where its two lines lie, and what they hold. -/
structure RowM where
  g : Nat
  h : Nat
  l : List Int
  b : List Int
def RowM.cells (n m : Nat) (r : RowM) : List Value := [sl r.g n, sl r.h m]
def blocksM (rs : List RowM) : List Nat := rs.flatMap fun r => [r.g, r.h]
def cellsM (n m : Nat) (rs : List RowM) : List Value := (rs.map (RowM.cells n m)).flatten
theorem cellsM_snoc (n m : Nat) (rs : List RowM) (r : RowM) : cellsM n m (rs ++ [r]) = cellsM n m rs ++ r.cells n m := by simp [cellsM]
theorem blocksM_snoc (rs : List RowM) (r : RowM) : blocksM (rs ++ [r]) = blocksM rs ++ [r.g, r.h] := by simp [blocksM]

structure RowOk (b w : World) (n m : Nat) (r : RowM) : Prop where
  gl : NewInts b w r.g r.l
  hb : NewInts b w r.h r.b
  ln : r.l.length = n
  bn : r.b.length = m

structure Mat (b w : World) (v : Value) (n m : Nat) (rs : List RowM) : Prop where
  own : Own b w 117 2 v rs.length (cellsM n m rs)
  rows : ∀ r ∈ rs, RowOk b w n m r
  nd : (blocksM rs).Nodup

section
variable {b w w' : World} {v : Value} {n m : Nat} {rs : List RowM}
theorem RowOk.later {r : RowM} (h : RowOk b w n m r) (he : Ext w w') : RowOk b w' n m r := ⟨h.gl.later he, h.hb.later he, h.ln, h.bn⟩
theorem Mat.later (h : Mat b w v n m rs) (he : Ext w w') : Mat b w' v n m rs := ⟨h.own.later he, fun r hr => (h.rows r hr).later he, h.nd⟩
theorem Mat.since {b0 : World} (h : Mat b w v n m rs) (he : Ext b0 b) : Mat b0 w v n m rs := ⟨h.own.since he, fun r hr => ⟨(h.rows r hr).gl.since he, (h.rows r hr).hb.since he, (h.rows r hr).ln, (h.rows r hr).bn⟩, h.nd⟩
theorem Mat.start (he : Ext b w) (n m : Nat) : Mat b w (.slice none 0 0) n m [] := ⟨Own.nil' he _ _, by simp, by simp [blocksM]⟩
theorem Mat.lt (h : Mat b w v n m rs) {k : Nat} (hk : k ∈ blocksM rs) : k < w.heap.size := by
  obtain ⟨r, hr, hk⟩ := List.mem_flatMap.1 hk
  simp at hk
  rcases hk with rfl | rfl
  · exact (h.rows r hr).gl.lt
  · exact (h.rows r hr).hb.lt
/-- The slice's own block is none of the lines'. -/
theorem Mat.apart (h : Mat b w v n m rs) {k : Nat} (hk : k ∈ blocksM rs) : v.ownBlock ≠ some k := fun e => by
  rcases h.own.2.2 with ⟨rfl, _⟩ | ⟨g, cap, cur, rfl, _, hh, _⟩
  · cases e
  · injection e with e
    simp only at e
    subst e
    obtain ⟨r, hr, hk⟩ := List.mem_flatMap.1 hk
    simp at hk
    rcases hk with rfl | rfl
    · have := (h.rows r hr).gl.2.2
      rw [hh] at this
      injection this with this
      injection this with _ ht
      exact absurd ht (by decide)
    · have := (h.rows r hr).hb.2.2
      rw [hh] at this
      injection this with this
      injection this with _ ht
      exact absurd ht (by decide)

/-- One row more, in new memory. -/
theorem Mat.append {w1 w2 : World} {v' : Value} {g h : Nat} {l bl : List Int} (hm : Mat b w v n m rs) (he : Ext w w1) (hg : NewInts w w1 g l) (hh : NewInts w w1 h bl) (hne : g ≠ h) (hl : l.length = n) (hb : bl.length = m)
    (ho : Own b w2 117 2 v' (rs.length + 1) (cellsM n m rs ++ [sl g n, sl h m])) (hgr : w1.grownBy w2 v.ownBlock) : Mat b w2 v' n m (rs ++ [⟨g, h, l, bl⟩]) := by
  have hbw : Ext b w := hm.own.ext
  have keep : ∀ k, k < w1.heap.size → v.ownBlock ≠ some k → w2.heap[k]? = w1.heap[k]? := fun k hk hv => hgr.block k hk (fun e => hv e.symm)
  have hv1 : ∀ k, w.heap.size ≤ k → v.ownBlock ≠ some k := fun k hk e => by
    have := (hm.own.2.lt k e).2
    omega
  refine ⟨by rw [cellsM_snoc, List.length_append]; exact ho, fun r hr => ?_, ?_⟩
  · rcases List.mem_append.1 hr with hr | hr
    · have h1 := hm.rows r hr
      have m1 : r.g ∈ blocksM rs := List.mem_flatMap.2 ⟨r, hr, by simp⟩
      have m2 : r.h ∈ blocksM rs := List.mem_flatMap.2 ⟨r, hr, by simp⟩
      refine ⟨⟨ho.ext, h1.gl.2.1, ?_⟩, ⟨ho.ext, h1.hb.2.1, ?_⟩, h1.ln, h1.bn⟩
      · rw [keep _ (Nat.lt_of_lt_of_le h1.gl.lt he.le) (hm.apart m1)]; exact he.heap h1.gl.2.2
      · rw [keep _ (Nat.lt_of_lt_of_le h1.hb.lt he.le) (hm.apart m2)]; exact he.heap h1.hb.2.2
    · simp only [List.mem_singleton] at hr
      subst hr
      refine ⟨⟨ho.ext, Nat.le_trans hbw.le hg.2.1, ?_⟩, ⟨ho.ext, Nat.le_trans hbw.le hh.2.1, ?_⟩, hl, hb⟩
      · rw [keep _ hg.lt (hv1 _ hg.2.1)]; exact hg.2.2
      · rw [keep _ hh.lt (hv1 _ hh.2.1)]; exact hh.2.2
  · rw [blocksM_snoc]
    refine List.nodup_append.2 ⟨hm.nd, by simp [hne], ?_⟩
    intro a ha c hc e
    subst e
    have := hm.lt ha
    simp at hc
    have h1 := hg.2.1
    have h2 := hh.2.1
    omega
end
end Go.Proofs.Ytbclbcldplmppaa

/- The equations of a train, by the code. -/
namespace Go.Proofs.Ytbclbcldplmppaa
open Go.RowKit

section
variable {b w w' : World} {g : Nat} {xs : List Int}
theorem NewInts.store (h : NewInts b w g xs) (hx : xs.length ≤ maxLen) (i : Nat) (x : Int) : NewInts b (w.setCell ⟨g, i, none⟩ (vint x)) g (xs.set i x) := by
  have := (h.own hx).store i (vint x)
  rw [← List.map_set] at this
  exact NewInts.of_own this
theorem NewInts.other (h : NewInts b w g xs) (hx : xs.length ≤ maxLen) {p : Addr} (hp : b.heap.size ≤ p.block) (hne : p.block ≠ g) (u : Value) : NewInts b (w.setCell p u) g xs :=
  NewInts.of_own ((h.own hx).other hp (by simp only [Value.ownBlock, ne_eq, Option.some.injEq]; exact fun e => hne e.symm) u)
theorem NewInts.free (h : NewInts b w g xs) (hx : xs.length ≤ maxLen) (j : Nat) : w.frozen? ⟨g, j, none⟩ = false := (h.own hx).free j
end

theorem frozen_heap {w : World} {b : Nat} {cs : Array Value} {t : TypeId} (h : w.heap[b]? = some (.cells cs t)) (j : Nat) : w.frozen? ⟨b, j, none⟩ = false := by
  simp [World.frozen?, h]
theorem cell_heap {w : World} {b : Nat} {cs : Array Value} {t : TypeId} (h : w.heap[b]? = some (.cells cs t)) (j : Nat) : w.cell? ⟨b, j, none⟩ = cs[j]? := by
  simp [World.cell?, h]

/-- The row's two lines, and the struct that holds them, once it is stored and a number of the second one is set. -/
theorem row_made {w0 w3 : World} {g h br : Nat} {l : List Int} {n m k : Nat} (hg : NewInts w0 w3 g l) (hh : NewInts w0 w3 h (List.replicate m 0)) (hb : w0.heap.size ≤ br) (hbr : w3.heap[br]? = some (.cells #[.slice none 0 0, .slice none 0 0] 117))
    (hne : g ≠ h) (hln : l.length = n) (hn : n ≤ 1000000) (hm : m ≤ 1000000) (hk : k < m) {w4 w5 : World} (h4 : w4 = (w3.setCell ⟨br, 0, none⟩ (sl g n)).setCell ⟨br, 1, none⟩ (sl h m)) (h5 : w5 = w4.setCell ⟨h, k, none⟩ (vint 1)) :
    (w4.cell? ⟨br, 0, none⟩ = some (sl g n) ∧ w4.cell? ⟨br, 1, none⟩ = some (sl h m) ∧ w4.cell? ⟨h, k, none⟩ = some (vint 0) ∧ w4.frozen? ⟨h, k, none⟩ = false) ∧
    (w5.cell? ⟨br, 0, none⟩ = some (sl g n) ∧ w5.cell? ⟨br, 1, none⟩ = some (sl h m) ∧ Ext w0 w5 ∧ NewInts w0 w5 g l ∧ NewInts w0 w5 h ((List.replicate m 0).set k 1)) := by
  have hbg : br ≠ g := fun e => by
    have := hg.2.2
    rw [← e, hbr] at this
    injection this with this
    injection this with _ ht
    exact absurd ht (by decide)
  have hbh : br ≠ h := fun e => by
    have := hh.2.2
    rw [← e, hbr] at this
    injection this with this
    injection this with _ ht
    exact absurd ht (by decide)
  have hl1 : l.length ≤ maxLen := by unfold maxLen; omega
  have hl2 : (List.replicate m (0 : Int)).length ≤ maxLen := by unfold maxLen; simp; omega
  have g4 : NewInts w0 w4 g l := by
    rw [h4]
    exact (hg.other (p := ⟨br, 0, none⟩) hl1 hb hbg _).other (p := ⟨br, 1, none⟩) hl1 hb hbg _
  have hh4 : NewInts w0 w4 h (List.replicate m 0) := by
    rw [h4]
    exact (hh.other (p := ⟨br, 0, none⟩) hl2 hb hbh _).other (p := ⟨br, 1, none⟩) hl2 hb hbh _
  have c0 : w3.cell? ⟨br, 0, none⟩ = some (.slice none 0 0) := by rw [cell_heap hbr]; rfl
  have c1 : w3.cell? ⟨br, 1, none⟩ = some (.slice none 0 0) := by rw [cell_heap hbr]; rfl
  have d0 : w4.cell? ⟨br, 0, none⟩ = some (sl g n) := by
    rw [h4, World.cell?_setCell_other _ _ _ _ (by simp), World.cell?_setCell_same _ _ _ c0]
  have d1 : w4.cell? ⟨br, 1, none⟩ = some (sl h m) := by
    rw [h4, World.cell?_setCell_same _ _ _ (u := .slice none 0 0)]
    rw [World.cell?_setCell_other _ _ _ _ (by simp)]; exact c1
  refine ⟨⟨d0, d1, ?_, hh4.free hl2 k⟩, ?_, ?_, ?_, ?_, ?_⟩
  · rw [hh4.cell (by simpa using hk)]
    simp [getI, hk]
  · rw [h5, World.cell?_setCell_other _ _ _ _ (by first | (simp; done) | (simp; exact fun e => absurd e.symm hbh))]; exact d0
  · rw [h5, World.cell?_setCell_other _ _ _ _ (by first | (simp; done) | (simp; exact fun e => absurd e.symm hbh))]; exact d1
  · rw [h5]; exact hh4.ext.setCell hh.2.1 _
  · rw [h5]; exact g4.other (p := ⟨h, k, none⟩) hl1 hh.2.1 (fun e => hne e.symm) _
  · rw [h5]; exact hh4.store hl2 k 1

theorem make_run (w : World) (n : Nat) (hn : n ≤ 1000000) :
    ∃ w', (Instr.makeSlice 94 (.int .i64 (n : Int)) (.int .i64 (n : Int))).run Try.prog w = .ok (sl w.heap.size n) w' ∧ Ext w w' ∧ NewInts w w' w.heap.size (List.replicate n 0) := by
  obtain ⟨i, hi, hz0, hz1, hz2⟩ := int_elem.info
  obtain ⟨w', h1, h2, h3⟩ := run_make_full (P := Try.prog) w w.heap.size 94 3 i (.int .i64 0) 1 Try.underlying94 hi hz0 hz1 .i64 .i64 n (by rw [hz2]; omega) (by unfold maxLen; omega) (Nat.le_refl _)
  have hx : Ext w w' := (Ext.refl w).grown h3 (fun k hk => by cases hk)
  rw [made_ints] at h2
  exact ⟨w', h1, hx, NewInts.of_own ⟨hx, h2⟩⟩
theorem NewInts.new' {w w' : World} {g : Nat} {xs : List Int} {n : Nat} (h : NewInts w w' g xs) (hn : xs.length = n) : Cf.New (sl g n) w w' := by
  subst hn
  exact h.new

def unitL (m i : Nat) : List Int := (List.replicate m 0).set i 1
theorem unitL_length (m i : Nat) : (unitL m i).length = m := by simp [unitL]
def lineI (ms : List Msh) (S i : Nat) : List Int := match ms[i]? with
  | some x => facS x S
  | none => []
theorem lineI_eq {ms : List Msh} {S i : Nat} (h : i < ms.length) : lineI ms S i = facS ms[i] S := by simp [lineI, h]
structure RowsOf (ms : List Msh) (S k : Nat) (rs : List RowM) : Prop where
  len : rs.length = k
  l : ∀ i (h : i < rs.length), rs[i].l = lineI ms S i
  b : ∀ i (h : i < rs.length), rs[i].b = unitL ms.length i
theorem RowsOf.snoc {ms : List Msh} {S k : Nat} {rs : List RowM} (h : RowsOf ms S k rs) {g h' : Nat} {l b : List Int} (hl : l = lineI ms S k) (hb : b = unitL ms.length k) : RowsOf ms S (k + 1) (rs ++ [⟨g, h', l, b⟩]) := by
  refine ⟨by simp [h.len], fun i hi => ?_, fun i hi => ?_⟩
  · by_cases e : i < rs.length
    · rw [List.getElem_append_left e]; exact h.l i e
    · have : i = rs.length := by simp at hi; omega
      subst this
      rw [List.getElem_append_right (by omega)]
      simp [hl, h.len]
  · by_cases e : i < rs.length
    · rw [List.getElem_append_left e]; exact h.b i e
    · have : i = rs.length := by simp at hi; omega
      subst this
      rw [List.getElem_append_right (by omega)]
      simp [hb, h.len]

def RowsRes (w : World) (ms : List Msh) (S : Nat) (e : Ending) (w' : World) : Prop :=
  ∃ v rs, e = .returned v ∧ Mat w w' v S ms.length rs ∧ RowsOf ms S ms.length rs

set_option maxRecDepth 100000 in
set_option maxHeartbeats 4000000 in
theorem rows_any (A : Option Addr) (c S : Nat) (ms : List Msh) (w : World) (hA : MRow w A ms) (ht : trainP S ms) :
    Calls Try.prog 66 #[.agg #[.int .i64 S, .slice A ms.length c]] w (RowsRes w ms S) := by
  have ha := fun k (hk : k < ms.length) => hA.at_ hk
  have ce := fun (k : Nat) (hk : k < ms.length) (w' : World) => equation_any ms[k] S w' (ht.2.2.2 k hk) (by have := ht.2.1; omega)
  have hl16 := ht.2.2.1
  have h8 : S ≤ 8 := by have := ht.2.1; omega
  have hli := fun (k : Nat) (hk : k < ms.length) => lineI_eq (S := S) hk
  have hfl := fun (k : Nat) (hk : k < ms.length) => facS_length ms[k] S
  have Ha := Lib.hid ha
  have Ce := Lib.hid ce
  have Hli := Lib.hid hli
  have Hfl := Lib.hid hfl
  clear ha ce hli hfl hA ht
  obtain ⟨m, hm⟩ : ∃ m, m = ms.length := ⟨_, rfl⟩
  rw [← hm] at hl16 ⊢
  have Hm := Lib.hid hm
  clear hm
  go_enter Try.func66, Try.ntmps66
  go_wp2
  have hexb : Ext w (w.alloc (.cells #[.int .i64 S, .slice A m c] 41)) := by simp
  have hp0 : ∀ w', Ext (w.alloc (.cells #[.int .i64 S, .slice A m c] 41)) w' → w'.cell? ⟨w.heap.size, 0, none⟩ = some (.int .i64 S) := fun w' he => he.cell (by simp)
  have hp1 : ∀ w', Ext (w.alloc (.cells #[.int .i64 S, .slice A m c] 41)) w' → w'.cell? ⟨w.heap.size, 1, none⟩ = some (.slice A m c) := fun w' he => he.cell (by simp)
  generalize w.alloc (.cells #[.int .i64 S, .slice A m c] 41) = wb at *
  have Hexb := Lib.hid hexb
  have Hp0 := Lib.hid hp0
  have Hp1 := Lib.hid hp1
  clear hexb hp0 hp1
  generalize w.heap.size = bx at *
  go_loopw [10, 3] (fun i t wr => ∃ k : Nat, k ≤ m ∧ i = .int .i64 k ∧ ∃ rs, Mat wb wr t S m rs ∧ RowsOf ms S k rs) (fun i _ _ => m - (intOf i).toNat)
  case atStart => exact ⟨0, by omega, rfl, [], Mat.start (Ext.refl _) _ _, rfl, fun i hi => by simp at hi, fun i hi => by simp at hi⟩
  case round =>
    obtain ⟨k, hk, rfl, rs, hmat, hrs⟩ := hrel
    obtain ⟨Av, cv, hv⟩ := hmat.own.form
    subst hv
    have hexw := Hexb.out.trans hmat.own.ext
    have hp0 : ∀ w', Ext wr w' → w'.cell? ⟨bx, 0, none⟩ = some (.int .i64 S) := fun w' he => Hp0.out w' (hmat.own.ext.trans he)
    have hp1 : ∀ w', Ext wr w' → w'.cell? ⟨bx, 1, none⟩ = some (.slice A m c) := fun w' he => Hp1.out w' (hmat.own.ext.trans he)
    by_cases hlt : k < m
    · have hkp : k < ms.length := by rw [← Hm.out]; exact hlt
      obtain ⟨ad, rfl, q0, q1, q2, q3, q4, q5⟩ := Ha.out k hkp
      have q0 := q0 wr hexw
      have q1 := q1 wr hexw
      have q2 := q2 wr hexw
      have q3 := q3 wr hexw
      have q4 := q4 wr hexw
      have q5 := q5 wr hexw
      have hce := Ce.out k hkp
      have hli := Hli.out k hkp
      have hfl := Hfl.out k hkp
      have Hce := Lib.hid hce
      have Hli' := Lib.hid hli
      have Hfl' := Lib.hid hfl
      clear hce hli hfl
      generalize hl : facS ms[k] S = l at *
      clear hl
      generalize ms[k] = x at *
      obtain ⟨kind, a, b, c3, n, m3⟩ := x
      simp only [Msh.val] at *
      have hx0 : ∀ w', Ext (wr.alloc (.cells #[.int .u8 kind, vint a, vint b, vint c3, vint n, vint m3] 57)) w' → w'.cell? ⟨wr.heap.size, 0, none⟩ = some (.int .u8 kind) := fun w' he => he.cell (by simp)
      have hx1 : ∀ w', Ext (wr.alloc (.cells #[.int .u8 kind, vint a, vint b, vint c3, vint n, vint m3] 57)) w' → w'.cell? ⟨wr.heap.size, 1, none⟩ = some (vint a) := fun w' he => he.cell (by simp)
      have hx2 : ∀ w', Ext (wr.alloc (.cells #[.int .u8 kind, vint a, vint b, vint c3, vint n, vint m3] 57)) w' → w'.cell? ⟨wr.heap.size, 2, none⟩ = some (vint b) := fun w' he => he.cell (by simp)
      have hx3 : ∀ w', Ext (wr.alloc (.cells #[.int .u8 kind, vint a, vint b, vint c3, vint n, vint m3] 57)) w' → w'.cell? ⟨wr.heap.size, 3, none⟩ = some (vint c3) := fun w' he => he.cell (by simp)
      have hx4 : ∀ w', Ext (wr.alloc (.cells #[.int .u8 kind, vint a, vint b, vint c3, vint n, vint m3] 57)) w' → w'.cell? ⟨wr.heap.size, 4, none⟩ = some (vint n) := fun w' he => he.cell (by simp)
      have hx5 : ∀ w', Ext (wr.alloc (.cells #[.int .u8 kind, vint a, vint b, vint c3, vint n, vint m3] 57)) w' → w'.cell? ⟨wr.heap.size, 5, none⟩ = some (vint m3) := fun w' he => he.cell (by simp)
      go_wp2
      have hmat0 := hmat.later (w' := wr.alloc (.cells #[.int .u8 kind, vint a, vint b, vint c3, vint n, vint m3] 57)) (by simp)
      have hx00 : Ext wr (wr.alloc (.cells #[.int .u8 kind, vint a, vint b, vint c3, vint n, vint m3] 57)) := by simp
      generalize wr.alloc (.cells #[.int .u8 kind, vint a, vint b, vint c3, vint n, vint m3] 57) = w0 at *
      have hp0 : ∀ w', Ext w0 w' → _ := fun w' he => hp0 w' (hx00.trans he)
      have hp1 : ∀ w', Ext w0 w' → _ := fun w' he => hp1 w' (hx00.trans he)
      refine Cf.wp_region_calm (p := Cf.extPre) (fr := fun j => j == 3 || j == 7) 10 (fun j _ v w => ∃ g, v = sl g l.length ∧ NewInts w0 w g l) (fun _ _ _ _ _ he ⟨g, hg, hn⟩ => ⟨g, hg, hn.later he⟩) (by kernel_rfl) (by kernel_rfl) ?_
      simp only [List.take_succ_cons, List.take_zero, List.drop_succ_cons, List.drop_zero]
      refine Cf.calm_quiet Cf.calm_mono_final w0 (fun _ h => h) 3 (by kernel_rfl) ?_
      simp only [List.take_succ_cons, List.take_zero, List.drop_succ_cons, List.drop_zero]
      repeat (go_big_quiet_step (fail))
      refine wpQuiet_nil ?_
      refine Cf.calm_call Cf.calm_mono_final 62 #[.agg #[.int .u8 kind, vint a, vint b, vint c3, vint n, vint m3], .int .i64 S] rfl (fun w => ?_) (fun w he _ => ?_) ?_
      · go_simp
      · refine (Hce.out w).mono fun e w'' h => ?_
        obtain ⟨g, rfl, ho⟩ := h
        have hn := NewInts.of_own ho
        exact ⟨_, rfl, hn.ext, ⟨g, rfl, hn.since he⟩, fun _ => hn.new⟩
      rintro v3 w' _ ⟨g, rfl, _⟩ _
      simp only [Act.put, List.setIfInBounds_toArray, List.set_cons_succ, List.set_cons_zero]
      refine Cf.calm_quiet Cf.calm_mono_final w0 (fun _ h => h) 3 (by kernel_rfl) ?_
      simp only [List.take_succ_cons, List.take_zero, List.drop_succ_cons, List.drop_zero]
      repeat (go_big_quiet_step (fail))
      refine wpQuiet_nil ?_
      refine Cf.calm_value Cf.calm_mono_final (fun v w => ∃ h, v = sl h m ∧ NewInts w0 w h (List.replicate m 0)) (fun _ _ _ he ⟨h, e, hn⟩ => ⟨h, e, hn.later he⟩) rfl (fun w he _ => ?_) ?_
      · obtain ⟨w', hr, hx, hn⟩ := make_run w m (by omega)
        refine ⟨_, w', by go_simp, hx, ⟨_, rfl, hn.since he⟩, fun _ => hn.new' (by simp)⟩
      rintro v7 _ _ ⟨h, rfl, _⟩ hfar
      have hgh : g ≠ h := by
        have := hfar rfl (sl g l.length) (.inr ⟨rfl, rfl⟩)
        simpa [sl, Value.ownBlock] using this
      clear hfar
      simp only [Act.put, List.setIfInBounds_toArray, List.set_cons_succ, List.set_cons_zero]
      refine Cf.calm_value Cf.calm_mono_final (fun v _ => v = .agg #[sl g l.length, sl h m]) (fun _ _ _ _ h => h) rfl (fun w he _ => ⟨_, w, by go_simp, Ext.refl w, rfl, fun hf => by cases hf⟩) ?_
      rintro v8 _ _ rfl _
      simp only [Act.put, List.setIfInBounds_toArray, List.set_cons_succ, List.set_cons_zero]
      refine Cf.calm_value Cf.calm_mono_final (fun v w => ∃ b, v = .pointer (some ⟨b, 0, none⟩) ∧ w0.heap.size ≤ b ∧ w.heap[b]? = some (.cells #[.slice none 0 0, .slice none 0 0] 117)) (fun _ _ _ he ⟨b, e, hb, hh⟩ => ⟨b, e, hb, Ext.heap he hh⟩) rfl (fun w he _ => ⟨.pointer (some ⟨w.heap.size, 0, none⟩), w.alloc (.cells #[.slice none 0 0, .slice none 0 0] 117), by go_simp, (Ext.refl w).alloc _, ⟨_, rfl, Ext.le he, heap_alloc_new _ _⟩, fun hf => by cases hf⟩) ?_
      rintro v9 _ _ ⟨br, rfl, _, _⟩ _
      simp only [Act.put, List.setIfInBounds_toArray, List.set_cons_succ, List.set_cons_zero]
      refine Cf.calm_nil fun w3 he3 hF => ?_
      obtain ⟨g', eg, hg⟩ := (hF.1 3).1.1.1.2 rfl
      obtain ⟨h', eh, hh⟩ := (hF.1 7).1.1.2 rfl
      obtain ⟨b', eb, hb, hbr⟩ := (hF.1 9).2 rfl
      simp only [sl, Value.slice.injEq, Option.some.injEq, Addr.mk.injEq, and_true] at eg eh
      simp only [Value.pointer.injEq, Option.some.injEq, Addr.mk.injEq, and_true] at eb
      subst eg eh eb
      clear hF
      have hlS : l.length = S := Hfl'.out
      obtain ⟨w4, h4⟩ : ∃ w4, w4 = (w3.setCell ⟨br, 0, none⟩ (sl g S)).setCell ⟨br, 1, none⟩ (sl h m) := ⟨_, rfl⟩
      obtain ⟨w5, h5⟩ : ∃ w5, w5 = w4.setCell ⟨h, k, none⟩ (vint 1) := ⟨_, rfl⟩
      obtain ⟨⟨d0, d1, dh, fh⟩, z0, z1, zx, zg, zh⟩ := row_made hg hh hb hbr hgh hlS (by omega) (by omega) hlt h4 h5
      have c0 : w3.cell? ⟨br, 0, none⟩ = some (.slice none 0 0) := by rw [cell_heap hbr]; rfl
      have c1 : w3.cell? ⟨br, 1, none⟩ = some (.slice none 0 0) := by rw [cell_heap hbr]; rfl
      have f0 := frozen_heap hbr 0
      have f1 := frozen_heap hbr 1
      have hki : (k : Int) < (m : Int) := by omega
      rw [hlS]
      have hmat5 := hmat0.later zx
      have hrow := row_alloc w5 #[sl g S, sl h m] 117
      have hown6 := hmat5.own.alloc (.cells #[sl g S, sl h m] 117)
      have hs5 : w5.heap.size = w3.heap.size := by rw [h5, h4]; simp
      rw [hs5] at hrow
      clear hs5
      rw [h5] at z0 z1 hown6 hrow zx zg zh
      rw [h4] at d0 d1 dh fh z0 z1 hown6 hrow zx zg zh
      go_wp2_with (first
        | (refine own_append_at (w1 := wb) row_elem rfl _ _ 98 rfl Try.underlying98 _ rs.length (cellsM S m rs) rfl hown6 _ 1 1 _ rfl rfl hrow (by intro u hu; simp at hu; rcases hu with rfl | rfl <;> rfl) (by have := hrs.len; omega) (by have := hrs.len; unfold maxLen; omega) ?_; intro v' w' ho hgr _))
      go_roundw
      case rel =>
        refine ⟨k + 1, by omega, by go_num, _, hmat0.append (zx.trans (by simp)) (zg.later (by simp)) (zh.later (by simp)) hgh hlS (by simp) ho hgr, hrs.snoc Hli'.out.symm ?_⟩
        rw [← Hm.out]
        rfl
      case measure => simp [intOf]; omega
    · obtain rfl : k = m := by omega
      go_wp2
      go_ret
      refine ⟨.slice Av rs.length cv, rs, rfl, ?_, ?_⟩
      · rw [← Hm.out]; exact hmat.since Hexb.out
      · rw [← Hm.out]; exact hrs
end Go.Proofs.Ytbclbcldplmppaa

/- Determinants of lists of vectors, in plain Lean: linear and alternating in the vectors, bounded by the product of the row sums. No program in sight. -/
namespace Go.Proofs.Ytbclbcldplmppaa

/-! ### Sums over lists -/
def S {α : Type} (l : List α) (f : α → Int) : Int := match l with | [] => 0 | x :: l => f x + S l f
section
variable {α β : Type}
@[simp] theorem S_nil (f : α → Int) : S [] f = 0 := rfl
@[simp] theorem S_cons (x : α) (l : List α) (f : α → Int) : S (x :: l) f = f x + S l f := rfl
theorem S_congr {l : List α} {f g : α → Int} (h : ∀ x ∈ l, f x = g x) : S l f = S l g := by
  induction l with
  | nil => rfl
  | cons x l ih => rw [S_cons, S_cons, h x (by simp), ih fun y hy => h y (by simp [hy])]
theorem S_add (l : List α) (f g : α → Int) : S l (fun x => f x + g x) = S l f + S l g := by
  induction l with
  | nil => rfl
  | cons x l ih => simp only [S_cons, ih]; omega
theorem S_mul (l : List α) (c : Int) (f : α → Int) : S l (fun x => c * f x) = c * S l f := by
  induction l with
  | nil => simp
  | cons x l ih => simp only [S_cons, ih, Int.mul_add]
theorem S_mul_right (l : List α) (c : Int) (f : α → Int) : S l (fun x => f x * c) = S l f * c := by
  rw [Int.mul_comm, ← S_mul]; exact S_congr fun x _ => Int.mul_comm _ _
theorem S_neg (l : List α) (f : α → Int) : S l (fun x => - f x) = - S l f := by
  induction l with
  | nil => rfl
  | cons x l ih => simp only [S_cons, ih]; omega
theorem S_zero {l : List α} {f : α → Int} (h : ∀ x ∈ l, f x = 0) : S l f = 0 := by
  rw [S_congr h]
  induction l with
  | nil => rfl
  | cons x l ih => rw [S_cons, ih fun y hy => h y (by simp [hy])]; rfl
theorem S_map (l : List α) (g : α → β) (f : β → Int) : S (l.map g) f = S l (fun x => f (g x)) := by
  induction l with
  | nil => rfl
  | cons x l ih => simp only [List.map_cons, S_cons, ih]
theorem S_append (l m : List α) (f : α → Int) : S (l ++ m) f = S l f + S m f := by
  induction l with
  | nil => simp
  | cons x l ih => simp only [List.cons_append, S_cons, ih]; omega
theorem S_comm (l : List α) (m : List β) (f : α → β → Int) : S l (fun x => S m (f x)) = S m (fun y => S l (fun x => f x y)) := by
  induction l with
  | nil => exact (S_zero fun _ _ => rfl).symm
  | cons x l ih => simp only [S_cons, ih, S_add]
theorem S_le {l : List α} {f g : α → Int} (h : ∀ x ∈ l, f x ≤ g x) : S l f ≤ S l g := by
  induction l with
  | nil => exact Int.le_refl _
  | cons x l ih =>
    have h1 := h x (by simp)
    have h2 := ih fun y hy => h y (by simp [hy])
    simp only [S_cons]; omega
theorem S_abs (l : List α) (f : α → Int) : ((S l f).natAbs : Int) ≤ S l (fun x => ((f x).natAbs : Int)) := by
  induction l with
  | nil => simp
  | cons x l ih =>
    simp only [S_cons]
    have := Int.natAbs_add_le (f x) (S l f)
    omega
theorem S_dvd {p : Int} {l : List α} {f g : α → Int} (h : ∀ x ∈ l, p ∣ f x - g x) : p ∣ S l f - S l g := by
  induction l with
  | nil => simp
  | cons x l ih =>
    have h1 := h x (by simp)
    have h2 := ih fun y hy => h y (by simp [hy])
    simp only [S_cons]
    have : f x + S l f - (g x + S l g) = (f x - g x) + (S l f - S l g) := by omega
    rw [this]
    exact Int.dvd_add h1 h2
end

/-! ### Picking one index out of a list, with its sign -/
def picks {ι : Type} : List ι → List (Int × ι × List ι)
  | [] => []
  | c :: cs => (1, c, cs) :: (picks cs).map fun p => (-p.1, p.2.1, c :: p.2.2)

/-- The determinant: expanded along the first vector. -/
def D {ι : Type} : List (ι → Int) → List ι → Int
  | [], _ => 1
  | v :: V, R => S (picks R) fun p => p.1 * v p.2.1 * D V p.2.2

section
variable {ι : Type}
theorem picks_mem {R : List ι} {p : Int × ι × List ι} (h : p ∈ picks R) : p.2.1 ∈ R ∧ (∀ x ∈ p.2.2, x ∈ R) ∧ p.2.2.length + 1 = R.length ∧ (p.1 = 1 ∨ p.1 = -1) := by
  induction R generalizing p with
  | nil => cases h
  | cons c R ih =>
    simp only [picks, List.mem_cons, List.mem_map] at h
    rcases h with rfl | ⟨q, hq, rfl⟩
    · exact ⟨by simp, fun x hx => by simp only at hx; simp [hx], rfl, .inl rfl⟩
    · obtain ⟨h1, h2, h3, h4⟩ := ih hq
      refine ⟨by simp [h1], fun x hx => ?_, by simp only [List.length_cons]; omega, by rcases h4 with h | h <;> simp [h]⟩
      simp only [List.mem_cons] at hx
      rcases hx with rfl | hx
      · simp
      · simp [h2 x hx]

theorem D_cons (v : ι → Int) (V : List (ι → Int)) (R : List ι) : D (v :: V) R = S (picks R) fun p => p.1 * v p.2.1 * D V p.2.2 := rfl

/-- Only the values at the indices matter. -/
theorem D_congr : ∀ (V U : List (ι → Int)) (R : List ι), V.length = U.length → (∀ i (h1 : i < V.length) (h2 : i < U.length), ∀ r ∈ R, V[i] r = U[i] r) → D V R = D U R
  | [], [], _, _, _ => rfl
  | v :: V, u :: U, R, hl, h => by
    rw [D_cons, D_cons]
    refine S_congr fun p hp => ?_
    obtain ⟨h1, h2, _, _⟩ := picks_mem hp
    have e1 : v p.2.1 = u p.2.1 := h 0 (by simp) (by simp) _ h1
    have e2 : D V p.2.2 = D U p.2.2 := D_congr V U p.2.2 (by simpa using hl) fun i a b r hr => h (i + 1) (by simpa using a) (by simpa using b) r (h2 r hr)
    rw [e1, e2]

theorem D_dvd {m : Int} : ∀ (V U : List (ι → Int)) (R : List ι), V.length = U.length → (∀ i (h1 : i < V.length) (h2 : i < U.length), ∀ r ∈ R, m ∣ V[i] r - U[i] r) → m ∣ D V R - D U R
  | [], [], _, _, _ => by simp [D]
  | v :: V, u :: U, R, hl, h => by
    rw [D_cons, D_cons]
    refine S_dvd fun p hp => ?_
    obtain ⟨h1, h2, _, _⟩ := picks_mem hp
    have e1 : m ∣ v p.2.1 - u p.2.1 := h 0 (by simp) (by simp) _ h1
    have e2 : m ∣ D V p.2.2 - D U p.2.2 := D_dvd V U p.2.2 (by simpa using hl) fun i a b r hr => h (i + 1) (by simpa using a) (by simpa using b) r (h2 r hr)
    have : p.1 * v p.2.1 * D V p.2.2 - p.1 * u p.2.1 * D U p.2.2 = p.1 * D V p.2.2 * (v p.2.1 - u p.2.1) + p.1 * u p.2.1 * (D V p.2.2 - D U p.2.2) := by
      rw [Int.mul_sub, Int.mul_sub, Int.mul_right_comm p.1 (D V p.2.2) (v p.2.1), Int.mul_right_comm p.1 (D V p.2.2) (u p.2.1)]
      omega
    rw [this]
    exact Int.dvd_add (Int.dvd_trans e1 (Int.dvd_mul_left _ _)) (Int.dvd_trans e2 (Int.dvd_mul_left _ _))

/-- Linear in each vector: a sum. -/
theorem D_sum {α : Type} (m : List α) (c : α → Int) (u : α → ι → Int) : ∀ (Z X : List (ι → Int)) (R : List ι), D (Z ++ (fun r => S m fun k => c k * u k r) :: X) R = S m fun k => c k * D (Z ++ u k :: X) R
  | [], X, R => by
    simp only [List.nil_append, D_cons]
    have : ∀ k, c k * S (picks R) (fun p => p.1 * u k p.2.1 * D X p.2.2) = S (picks R) (fun p => c k * (p.1 * u k p.2.1 * D X p.2.2)) := fun k => (S_mul _ _ _).symm
    rw [S_congr fun k _ => this k, S_comm]
    refine S_congr fun p _ => ?_
    rw [← S_mul, ← S_mul_right]
    refine S_congr fun k _ => ?_
    rw [Int.mul_left_comm p.1 (c k), Int.mul_assoc (c k)]
  | z :: Z, X, R => by
    simp only [List.cons_append, D_cons]
    have : ∀ k, c k * S (picks R) (fun p => p.1 * z p.2.1 * D (Z ++ u k :: X) p.2.2) = S (picks R) (fun p => c k * (p.1 * z p.2.1 * D (Z ++ u k :: X) p.2.2)) := fun k => (S_mul _ _ _).symm
    rw [S_congr fun k _ => this k, S_comm]
    refine S_congr fun p _ => ?_
    rw [D_sum m c u Z X p.2.2, ← S_mul]
    refine S_congr fun k _ => ?_
    rw [Int.mul_left_comm]

/-! ### Alternating -/

/-- The sum over two picks, one behind the other. -/
def S2 (R : List ι) (f : ι → ι → List ι → Int) : Int := S (picks R) fun p => p.1 * S (picks p.2.2) fun q => q.1 * f p.2.1 q.2.1 q.2.2
theorem S2_swap : ∀ (R : List ι) (f : ι → ι → List ι → Int), S2 R f = - S2 R (fun x y => f y x)
  | [], _ => rfl
  | c :: R, f => by
    have key : ∀ g : ι → ι → List ι → Int, S2 (c :: R) g = S (picks R) (fun q => q.1 * g c q.2.1 q.2.2) - S (picks R) (fun p => p.1 * g p.2.1 c p.2.2) + S2 R (fun x y l => g x y (c :: l)) := fun g => by
      unfold S2
      simp only [picks, S_cons, S_map, Int.one_mul]
      have : ∀ p : Int × ι × List ι, -p.1 * (g p.2.1 c p.2.2 + S (picks p.2.2) fun q => -q.1 * g p.2.1 q.2.1 (c :: q.2.2)) = -(p.1 * g p.2.1 c p.2.2) + p.1 * S (picks p.2.2) (fun q => q.1 * g p.2.1 q.2.1 (c :: q.2.2)) := fun p => by
        have h : S (picks p.2.2) (fun q => -q.1 * g p.2.1 q.2.1 (c :: q.2.2)) = - S (picks p.2.2) (fun q => q.1 * g p.2.1 q.2.1 (c :: q.2.2)) := by
          rw [← S_neg]; exact S_congr fun q _ => Int.neg_mul _ _
        rw [h, Int.mul_add, Int.neg_mul, Int.neg_mul_neg]
      rw [S_congr fun p _ => this p, S_add, S_neg]
      omega
    rw [key, key, S2_swap R]
    omega

theorem D_two (u v : ι → Int) (V : List (ι → Int)) (R : List ι) : D (u :: v :: V) R = S2 R (fun x y l => u x * v y * D V l) := by
  unfold S2
  rw [D_cons]
  refine S_congr fun p _ => ?_
  rw [D_cons, ← S_mul, ← S_mul]
  refine S_congr fun q _ => ?_
  simp only [Int.mul_assoc, Int.mul_left_comm]

theorem D_swap (u v : ι → Int) (X : List (ι → Int)) : ∀ (Z : List (ι → Int)) (R : List ι), D (Z ++ u :: v :: X) R = - D (Z ++ v :: u :: X) R
  | [], R => by
    simp only [List.nil_append]
    rw [D_two, D_two, S2_swap]
    congr 1
    unfold S2
    refine S_congr fun p _ => ?_
    congr 1
    refine S_congr fun q _ => ?_
    show q.1 * (u q.2.1 * v p.2.1 * D X q.2.2) = q.1 * (v p.2.1 * u q.2.1 * D X q.2.2)
    rw [Int.mul_comm (u _) (v _)]
  | z :: Z, R => by
    simp only [List.cons_append, D_cons]
    rw [← S_neg]
    refine S_congr fun p _ => ?_
    rw [D_swap u v X Z p.2.2, Int.mul_neg]

/-- A vector moved to the left over others. -/
theorem D_move (u : ι → Int) (X : List (ι → Int)) : ∀ (Y Z : List (ι → Int)) (R : List ι), D (Z ++ (Y ++ u :: X)) R = D (Z ++ u :: (Y ++ X)) R ∨ D (Z ++ (Y ++ u :: X)) R = - D (Z ++ u :: (Y ++ X)) R
  | [], Z, R => .inl rfl
  | y :: Y, Z, R => by
    have ih := D_move u X Y (Z ++ [y]) R
    simp only [List.append_assoc, List.singleton_append] at ih
    have hs := D_swap y u (Y ++ X) Z R
    simp only [List.cons_append]
    rcases ih with h | h
    · right; rw [h, hs]
    · left; rw [h, hs]; omega

theorem D_same (u : ι → Int) (X Y Z : List (ι → Int)) (R : List ι) : D (Z ++ u :: (Y ++ u :: X)) R = 0 := by
  have h1 := D_move u X Y (Z ++ [u]) R
  have h2 := D_swap u u (Y ++ X) Z R
  simp only [List.append_assoc, List.singleton_append] at h1
  rcases h1 with h | h <;> omega

/-- A vector that occurs twice. -/
theorem D_dup {V : List (ι → Int)} {i j : Nat} (hij : i < j) (hj : j < V.length) (h : V[i] = V[j]) (R : List ι) : D V R = 0 := by
  have e1 : V = V.take i ++ V[i] :: V.drop (i + 1) := by
    rw [← List.drop_eq_getElem_cons (by omega), List.take_append_drop]
  have e2 : V.drop (i + 1) = (V.drop (i + 1)).take (j - i - 1) ++ V[j] :: V.drop (j + 1) := by
    have hl : j - i - 1 < (V.drop (i + 1)).length := by simp; omega
    have h3 : (V.drop (i + 1))[j - i - 1] = V[j] := by simp; congr 1; omega
    have h4 := (List.take_append_drop (j - i - 1) (V.drop (i + 1))).symm
    rw [List.drop_eq_getElem_cons hl, h3] at h4
    rw [List.drop_drop] at h4
    rw [show i + 1 + (j - i - 1 + 1) = j + 1 by omega] at h4
    exact h4
  rw [e1, e2, ← h]
  exact D_same _ _ _ _ _

/-- One vector in the place of another that is the same at all indices. -/
theorem D_at (u v : ι → Int) (X : List (ι → Int)) : ∀ (Z : List (ι → Int)) (R : List ι), (∀ r ∈ R, u r = v r) → D (Z ++ u :: X) R = D (Z ++ v :: X) R
  | [], R, h => by
    simp only [List.nil_append, D_cons]
    refine S_congr fun p hp => ?_
    rw [h _ (picks_mem hp).1]
  | z :: Z, R, h => by
    simp only [List.cons_append, D_cons]
    refine S_congr fun p hp => ?_
    rw [D_at u v X Z p.2.2 fun r hr => h r ((picks_mem hp).2.1 r hr)]

/-- A vector that is 0 at all indices. -/
theorem D_zero (Z X : List (ι → Int)) (z : ι → Int) (R : List ι) (h : ∀ r ∈ R, z r = 0) : D (Z ++ z :: X) R = 0 := by
  have h1 := D_sum (ι := ι) ([] : List Unit) (fun _ => 0) (fun _ _ => 0) Z X R
  exact (D_at z _ X Z R fun r hr => by rw [h r hr]; rfl).trans h1

/-- More vectors than there are to choose from. -/
theorem D_span {d : Int} (hd : d ≠ 0) (Y : List (ι → Int)) : ∀ (X Z : List (ι → Int)) (R : List ι), (∀ x ∈ X, ∃ c : Nat → Int, ∀ r ∈ R, d * x r = S (List.range Y.length) fun k => c k * (Y.getD k (fun _ => 0)) r) →
    (∀ z ∈ Z, z ∈ Y) → Y.length < Z.length + X.length → D (Z ++ X) R = 0
  | [], Z, R, _, hZ, hl => by
    -- all vectors out of Y: two of them are one
    simp only [List.append_nil]
    have : ∃ i j, i < j ∧ ∃ (h : j < Z.length) (h' : i < Z.length), Z[i] = Z[j] := by
      have pig : ∀ (n : Nat) (f : Nat → Nat) (m : Nat), (∀ i, i < m → f i < n) → n < m → ∃ i j, i < j ∧ j < m ∧ f i = f j := by
        intro n
        induction n with
        | zero => intro f m hf hm; exact absurd (hf 0 hm) (by omega)
        | succ n ih =>
          intro f m hf hm
          rcases Classical.em (∃ i j, i < j ∧ j < m ∧ f i = f j) with h | h
          · exact h
          · rcases Classical.em (∃ i, i < m ∧ f i = n) with ⟨i0, hi0, hfi0⟩ | hno
            · -- leave i0 out
              obtain ⟨i, j, hij, hj, he⟩ := ih (fun i => f (if i < i0 then i else i + 1)) (m - 1) (fun i hi => by
                by_cases hlt : i < i0
                · simp only [hlt, if_true]
                  have := hf i (by omega)
                  have hne : f i ≠ n := fun e => h ⟨i, i0, hlt, hi0, by omega⟩
                  omega
                · simp only [hlt, if_false]
                  have := hf (i + 1) (by omega)
                  have hne : f (i + 1) ≠ n := fun e => h ⟨i0, i + 1, by omega, by omega, by omega⟩
                  omega) (by omega)
              exact ⟨_, _, by split <;> split <;> omega, by split <;> omega, he⟩
            · obtain ⟨i, j, hij, hj, he⟩ := ih f m (fun i hi => by
                have := hf i hi
                have hne : f i ≠ n := fun e => hno ⟨i, hi, e⟩
                omega) (by omega)
              exact ⟨i, j, hij, hj, he⟩
      have hidx : ∀ i : Nat, ∃ k, ∀ h : i < Z.length, k < Y.length ∧ Y.getD k (fun _ => 0) = Z[i] := fun i => by
        by_cases h : i < Z.length
        · obtain ⟨k, hk, he⟩ := List.getElem_of_mem (hZ _ (List.getElem_mem h))
          exact ⟨k, fun _ => ⟨hk, by simp [List.getD, hk, he]⟩⟩
        · exact ⟨0, fun h' => absurd h' h⟩
      obtain ⟨f, hf⟩ := Classical.axiomOfChoice hidx
      obtain ⟨i, j, hij, hj, he⟩ := pig Y.length f Z.length (fun i hi => (hf i hi).1) (by simpa using hl)
      exact ⟨i, j, hij, hj, by omega, by rw [← (hf i (by omega)).2, ← (hf j hj).2, he]⟩
    obtain ⟨i, j, hij, hj, _, he⟩ := this
    exact D_dup hij hj he R
  | x :: X, Z, R, hX, hZ, hl => by
    obtain ⟨c, hc⟩ := hX x (by simp)
    have h1 : d * D (Z ++ x :: X) R = S (List.range Y.length) fun k => c k * D (Z ++ Y.getD k (fun _ => 0) :: X) R := by
      rw [← D_sum]
      have h2 := D_sum [()] (fun _ => d) (fun _ => x) Z X R
      simp only [S_cons, S_nil, Int.add_zero] at h2
      rw [← h2]
      exact D_at _ _ X Z R fun r hr => by simpa using hc r hr
    have h2 : S (List.range Y.length) (fun k => c k * D (Z ++ Y.getD k (fun _ => 0) :: X) R) = 0 := S_zero fun k hk => by
      have hk' : k < Y.length := by simpa using hk
      have hg : Y.getD k (fun _ => 0) = Y[k] := by simp [List.getD, hk']
      have ih := D_span hd Y X (Z ++ [Y.getD k fun _ => 0]) R (fun y hy => hX y (by simp [hy])) (fun z hz => by
        rcases List.mem_append.1 hz with hz | hz
        · exact hZ z hz
        · simp only [List.mem_singleton] at hz
          rw [hz, hg]; exact List.getElem_mem hk') (by simp at hl ⊢; omega)
      simp only [List.append_assoc, List.singleton_append] at ih
      rw [ih, Int.mul_zero]
    rw [h2] at h1
    exact (Int.mul_eq_zero.1 h1).resolve_left hd

end
end Go.Proofs.Ytbclbcldplmppaa

/- Determinants, second text: triangles, a unit vector, bounds, spans modulo a number. Plain Lean. -/
namespace Go.Proofs.Ytbclbcldplmppaa

section
variable {ι : Type}
theorem mem_rest {R : List ι} {p : Int × ι × List ι} (h : p ∈ picks R) (x : ι) (hx : x ∈ R) : p.2.1 = x ∨ x ∈ p.2.2 := by
  induction R generalizing p with
  | nil => cases h
  | cons c R ih =>
    simp only [picks, List.mem_cons, List.mem_map] at h
    rcases h with rfl | ⟨q, hq, rfl⟩
    · rcases List.mem_cons.1 hx with rfl | hx
      · exact .inl rfl
      · exact .inr hx
    · rcases List.mem_cons.1 hx with rfl | hx
      · exact .inr (by simp)
      · rcases ih hq hx with h | h
        · exact .inl h
        · exact .inr (by simp [h])

/-- An index at which all vectors are 0. -/
theorem D_col_zero : ∀ (V : List (ι → Int)) (R : List ι) (x : ι), V.length = R.length → x ∈ R → (∀ v ∈ V, v x = 0) → D V R = 0
  | [], R, x, hl, hx, _ => by
    have : R = [] := List.eq_nil_of_length_eq_zero (by simpa using hl.symm)
    subst this; cases hx
  | v :: V, R, x, hl, hx, h => by
    rw [D_cons]
    refine S_zero fun p hp => ?_
    obtain ⟨_, _, h3, _⟩ := picks_mem hp
    rcases mem_rest hp x hx with h1 | h1
    · rw [h1, h v (by simp), Int.mul_zero, Int.zero_mul]
    · rw [D_col_zero V p.2.2 x (by simp at hl; omega) h1 fun u hu => h u (by simp [hu]), Int.mul_zero]

/-- The step of a triangle. -/
theorem D_tri (v : ι → Int) (V : List (ι → Int)) (r : ι) (R : List ι) (hl : V.length = R.length) (h : ∀ u ∈ V, u r = 0) : D (v :: V) (r :: R) = v r * D V R := by
  rw [D_cons]
  simp only [picks, S_cons, S_map, Int.one_mul]
  have : S (picks R) (fun p => -p.1 * v p.2.1 * D V (r :: p.2.2)) = 0 := S_zero fun p hp => by
    obtain ⟨_, _, h3, _⟩ := picks_mem hp
    rw [D_col_zero V (r :: p.2.2) r (by simp; omega) (by simp) h, Int.mul_zero]
  rw [this, Int.add_zero]

theorem picks_snoc (i : ι) : ∀ R : List ι, ∃ s : Int, picks (R ++ [i]) = (picks R).map (fun p => (p.1, p.2.1, p.2.2 ++ [i])) ++ [(s, i, R)]
  | [] => ⟨1, rfl⟩
  | c :: R => by
    obtain ⟨s, hs⟩ := picks_snoc i R
    refine ⟨-s, ?_⟩
    simp [picks, hs, List.map_append, List.map_map, Function.comp_def]

/-- A vector that is a unit vector at the last index. -/
theorem D_unit (e : ι → Int) (i : ι) (he : e i = 1) : ∀ (V : List (ι → Int)) (R : List ι), V.length = R.length → (∀ r ∈ R, e r = 0) → D (V ++ [e]) (R ++ [i]) = D V R
  | [], R, hl, _ => by
    have : R = [] := List.eq_nil_of_length_eq_zero (by simpa using hl.symm)
    subst this
    simp [D, picks, he]
  | v :: V, R, hl, h => by
    obtain ⟨s, hs⟩ := picks_snoc i R
    rw [List.cons_append, D_cons, hs, S_append, S_map]
    simp only [S_cons, S_nil, Int.add_zero]
    rw [D_zero V [] e R h, Int.mul_zero, Int.add_zero, D_cons]
    refine S_congr fun p hp => ?_
    obtain ⟨_, h2, h3, _⟩ := picks_mem hp
    rw [D_unit e i he V p.2.2 (by simp at hl; omega) fun r hr => h r (h2 r hr)]

/-! ### Bounds -/

def P' (R : List ι) (f : ι → Int) : Int := match R with | [] => 1 | r :: R => f r * P' R f
theorem P_nonneg {R : List ι} {f : ι → Int} (h : ∀ r ∈ R, 0 ≤ f r) : 0 ≤ P' R f := by
  induction R with
  | nil => show (0 : Int) ≤ 1; omega
  | cons r R ih => exact Int.mul_nonneg (h r (by simp)) (ih fun x hx => h x (by simp [hx]))
theorem P_le {R : List ι} {f g : ι → Int} (h : ∀ r ∈ R, 0 ≤ f r ∧ f r ≤ g r) : P' R f ≤ P' R g := by
  induction R with
  | nil => exact Int.le_refl _
  | cons r R ih =>
    have h1 := h r (by simp)
    have h2 := ih fun x hx => h x (by simp [hx])
    have h3 := P_nonneg (R := R) (f := f) fun x hx => (h x (by simp [hx])).1
    exact Int.mul_le_mul h1.2 h2 h3 (by omega)
theorem P_first {R : List ι} {x y : ι → Int} (h : ∀ r ∈ R, 0 ≤ x r ∧ 0 ≤ y r) : S (picks R) (fun p => x p.2.1 * P' p.2.2 y) ≤ P' R (fun r => x r + y r) := by
  induction R with
  | nil => simp [picks, P']
  | cons r R ih =>
    have h1 := h r (by simp)
    have h2 := ih fun z hz => h z (by simp [hz])
    have hle : P' R y ≤ P' R (fun r => x r + y r) := P_le fun z hz => by
      have := h z (by simp [hz])
      omega
    simp only [picks, S_cons, S_map]
    have e : S (picks R) (fun p => x p.2.1 * P' (r :: p.2.2) y) = y r * S (picks R) (fun p => x p.2.1 * P' p.2.2 y) := by
      rw [← S_mul]
      refine S_congr fun p _ => ?_
      show x p.2.1 * (y r * P' p.2.2 y) = _
      rw [Int.mul_left_comm]
    rw [e]
    show x r * P' R y + _ ≤ (x r + y r) * P' R (fun r => x r + y r)
    rw [Int.add_mul]
    exact Int.add_le_add (Int.mul_le_mul_of_nonneg_left hle h1.1) (Int.mul_le_mul_of_nonneg_left h2 h1.2)

/-- The product of the rows' sums. -/
theorem D_bound : ∀ (V : List (ι → Int)) (R : List ι), ((D V R).natAbs : Int) ≤ P' R (fun r => S V fun v => ((v r).natAbs : Int)) ∨ V.length ≠ R.length
  | [], R => by
    by_cases h : R = []
    · subst h; left; simp [D, P']
    · right; intro hl; exact h (List.eq_nil_of_length_eq_zero (by simpa using hl.symm))
  | v :: V, R => by
    by_cases hl : (v :: V).length = R.length
    · left
      rw [D_cons]
      refine Int.le_trans (S_abs _ _) ?_
      refine Int.le_trans (S_le (g := fun p => ((v p.2.1).natAbs : Int) * P' p.2.2 (fun r => S V fun v => ((v r).natAbs : Int))) fun p hp => ?_) ?_
      · obtain ⟨_, _, h3, h4⟩ := picks_mem hp
        have ih := (D_bound V p.2.2).resolve_right (by simp at hl; simp; omega)
        have : (p.1 * v p.2.1 * D V p.2.2).natAbs = (v p.2.1).natAbs * (D V p.2.2).natAbs := by
          rw [Int.natAbs_mul, Int.natAbs_mul]
          rcases h4 with h | h <;> simp [h]
        rw [this, Int.natCast_mul]
        exact Int.mul_le_mul_of_nonneg_left ih (by omega)
      · refine Int.le_trans (P_first (x := fun r => ((v r).natAbs : Int)) (y := fun r => S V fun v => ((v r).natAbs : Int)) fun r _ => ⟨by omega, ?_⟩) ?_
        · have := S_le (l := V) (f := fun _ => 0) (g := fun v => ((v r).natAbs : Int)) fun _ _ => by omega
          rw [S_zero fun _ _ => rfl] at this
          exact this
        · exact Int.le_refl _
    · exact .inr hl

theorem P_const {R : List ι} {f : ι → Int} {b : Int} (h : ∀ r ∈ R, 0 ≤ f r ∧ f r ≤ b) : P' R f ≤ b ^ R.length := by
  induction R with
  | nil => simp [P']
  | cons r R ih =>
    have h1 := h r (by simp)
    have h2 := ih fun x hx => h x (by simp [hx])
    have h3 := P_nonneg (R := R) (f := f) fun x hx => (h x (by simp [hx])).1
    rw [List.length_cons, Int.pow_succ, Int.mul_comm (b ^ _)]
    exact Int.mul_le_mul h1.2 h2 h3 (by omega)

theorem S_abs_nonneg (V : List (ι → Int)) (r : ι) : 0 ≤ S V fun v => ((v r).natAbs : Int) := by
  have := S_le (l := V) (f := fun _ => 0) (g := fun v => ((v r).natAbs : Int)) fun _ _ => by omega
  rwa [S_zero fun _ _ => rfl] at this

/-! ### Modulo a number m (0: over the whole numbers) -/

def PrimeLike (m : Int) : Prop := ∀ a b : Int, m ∣ a * b → m ∣ a ∨ m ∣ b
theorem primeLike_zero : PrimeLike 0 := fun a b h => by
  rw [Int.zero_dvd, Int.mul_eq_zero] at h
  rw [Int.zero_dvd, Int.zero_dvd]; exact h

theorem D_at_mod {m : Int} (u v : ι → Int) (X : List (ι → Int)) : ∀ (Z : List (ι → Int)) (R : List ι), (∀ r ∈ R, m ∣ u r - v r) → m ∣ D (Z ++ u :: X) R - D (Z ++ v :: X) R
  | [], R, h => by
    simp only [List.nil_append, D_cons]
    refine S_dvd fun p hp => ?_
    rw [← Int.sub_mul, ← Int.mul_sub]
    exact Int.dvd_trans (h _ (picks_mem hp).1) (Int.dvd_trans (Int.dvd_mul_left _ _) (Int.dvd_mul_right _ _))
  | z :: Z, R, h => by
    simp only [List.cons_append, D_cons]
    refine S_dvd fun p hp => ?_
    rw [← Int.mul_sub]
    exact Int.dvd_trans (D_at_mod u v X Z p.2.2 fun r hr => h r ((picks_mem hp).2.1 r hr)) (Int.dvd_mul_left _ _)

theorem S_all_dvd {α : Type} {m : Int} {l : List α} {f : α → Int} (h : ∀ x ∈ l, m ∣ f x) : m ∣ S l f := by
  have := S_dvd (p := m) (l := l) (f := f) (g := fun _ => 0) fun x hx => by simpa using h x hx
  rwa [S_zero fun _ _ => rfl, Int.sub_zero] at this

/-- d x = a sum over a list, modulo m: what the determinant with x comes to. -/
theorem D_lin_mod {α : Type} {m d : Int} (l : List α) (c : α → Int) (u : α → ι → Int) (x : ι → Int) (Z X : List (ι → Int)) (R : List ι) (h : ∀ r ∈ R, m ∣ d * x r - S l fun k => c k * u k r) :
    m ∣ d * D (Z ++ x :: X) R - S l fun k => c k * D (Z ++ u k :: X) R := by
  have h1 := D_sum [()] (fun _ => d) (fun _ => x) Z X R
  simp only [S_cons, S_nil, Int.add_zero] at h1
  rw [← h1, ← D_sum]
  exact D_at_mod _ _ X Z R h

/-- All determinants out of Y (as many vectors) are divisible: so is one of combinations. -/
theorem D_combo_mod {m : Int} (hm : PrimeLike m) (Y : List (ι → Int)) : ∀ (X Z : List (ι → Int)) (R : List ι),
    (∀ x ∈ X, ∃ d : Int, ¬ m ∣ d ∧ ∃ c : Nat → Int, ∀ r ∈ R, m ∣ d * x r - S (List.range Y.length) fun k => c k * (Y.getD k (fun _ => 0)) r) →
    (∀ z ∈ Z, z ∈ Y) → (∀ V : List (ι → Int), (∀ v ∈ V, v ∈ Y) → V.length = Z.length + X.length → m ∣ D V R) → m ∣ D (Z ++ X) R
  | [], Z, R, _, hZ, h => by simpa using h Z hZ (by simp)
  | x :: X, Z, R, hX, hZ, h => by
    obtain ⟨d, hd, c, hc⟩ := hX x (by simp)
    have h1 := D_lin_mod (List.range Y.length) c (fun k => Y.getD k fun _ => 0) x Z X R hc
    have h2 : m ∣ S (List.range Y.length) (fun k => c k * D (Z ++ Y.getD k (fun _ => 0) :: X) R) := S_all_dvd fun k hk => by
      have hk' : k < Y.length := by simpa using hk
      have hg : Y.getD k (fun _ => 0) = Y[k] := by simp [List.getD, hk']
      have ih := D_combo_mod hm Y X (Z ++ [Y.getD k fun _ => 0]) R (fun y hy => hX y (by simp [hy])) (fun z hz => by
        rcases List.mem_append.1 hz with hz | hz
        · exact hZ z hz
        · simp only [List.mem_singleton] at hz
          rw [hz, hg]; exact List.getElem_mem hk') (fun V hV hl => h V hV (by simp at hl ⊢; omega))
      simp only [List.append_assoc, List.singleton_append] at ih
      exact Int.dvd_trans ih (Int.dvd_mul_left _ _)
    have h3 : m ∣ d * D (Z ++ x :: X) R := by
      have := Int.dvd_add h1 h2
      rwa [Int.sub_add_cancel] at this
    exact (hm _ _ h3).resolve_left hd

/-- More vectors than there are to choose from, modulo m. -/
theorem D_span_mod {m : Int} (hm : PrimeLike m) (Y X : List (ι → Int)) (R : List ι)
    (hX : ∀ x ∈ X, ∃ d : Int, ¬ m ∣ d ∧ ∃ c : Nat → Int, ∀ r ∈ R, m ∣ d * x r - S (List.range Y.length) fun k => c k * (Y.getD k (fun _ => 0)) r) (hl : Y.length < X.length) : m ∣ D X R := by
  have := D_combo_mod hm Y X [] R hX (by simp) fun V hV hlV => by
    have h0 := D_span (d := 1) (by decide) Y [] V R (by simp) hV (by simp at hlV ⊢; omega)
    simp only [List.append_nil] at h0
    rw [h0]; exact Int.dvd_zero _
  simpa using this
end
end Go.Proofs.Ytbclbcldplmppaa

/- Elimination without fractions: its divisions are exact, and its entries are determinants. Plain Lean. -/
namespace Go.Proofs.Ytbclbcldplmppaa

section
variable {ι : Type}
theorem D_mem_left {u : ι → Int} {Z : List (ι → Int)} (h : u ∈ Z) (X : List (ι → Int)) (R : List ι) : D (Z ++ u :: X) R = 0 := by
  obtain ⟨Z1, Z2, rfl⟩ := List.append_of_mem h
  rw [List.append_assoc, List.cons_append]
  exact D_same _ _ _ _ _
theorem D_mem_right {u : ι → Int} {X : List (ι → Int)} (h : u ∈ X) (Z : List (ι → Int)) (R : List ι) : D (Z ++ u :: X) R = 0 := by
  obtain ⟨X1, X2, rfl⟩ := List.append_of_mem h
  exact D_same _ _ _ _ _
end

/-- The column of a matrix, as a function of the row. -/
def col (A : Nat → Nat → Int) (j : Nat) : Nat → Int := fun i => A i j
def rowsOf (pv : List (Nat × Nat)) : List Nat := pv.map (·.1)
def colsOf (A : Nat → Nat → Int) (pv : List (Nat × Nat)) : List (Nat → Int) := pv.map fun q => col A q.2

theorem mem_cols {A : Nat → Nat → Int} {pv : List (Nat × Nat)} {q : Nat × Nat} (h : q ∈ pv) : col A q.2 ∈ colsOf A pv := List.mem_map.2 ⟨q, h, rfl⟩

/-- The state: pivots (row, column) in their order; M: the rows as they are now; d: the scale. -/
structure Bar (A : Nat → Nat → Int) (m : Nat) (pv : List (Nat × Nat)) (M : Nat → Nat → Int) (d : Int) : Prop where
  nodup : (rowsOf pv).Nodup
  lt : ∀ q ∈ pv, q.1 < m
  ne : d ≠ 0
  det : d = D (colsOf A pv) (rowsOf pv)
  rel : ∀ x, x < m → ∀ j, d * A x j = (if x ∈ rowsOf pv then 0 else M x j) + S pv fun q => A x q.2 * M q.1 j

theorem Bar.start (A : Nat → Nat → Int) (m : Nat) : Bar A m [] A 1 :=
  ⟨by simp [rowsOf], by simp, by decide, rfl, fun x _ j => by simp [rowsOf]⟩

/-- Cramer: x times a column is a combination of the pivots' columns (and of a unit vector at i, of which 'none' speaks). -/
theorem cramer_at {A : Nat → Nat → Int} {pre post : List (Nat × Nat)} {q0 : Nat × Nat} {e : Int} {y : Nat × Nat → Int} {j : Nat} {R : List Nat}
    (h : ∀ x ∈ R, e * A x j = S (pre ++ q0 :: post) fun q => y q * A x q.2) :
    e * D (colsOf A pre ++ col A j :: colsOf A post) R = y q0 * D (colsOf A (pre ++ q0 :: post)) R := by
  have h1 := D_sum [()] (fun _ => e) (fun _ => col A j) (colsOf A pre) (colsOf A post) R
  simp only [S_cons, S_nil, Int.add_zero] at h1
  have h2 := D_sum (pre ++ q0 :: post) y (fun q => col A q.2) (colsOf A pre) (colsOf A post) R
  rw [← h1]
  refine (D_at _ (fun r => S (pre ++ q0 :: post) fun k => y k * col A k.2 r) (colsOf A post) (colsOf A pre) R (fun r hr => h r hr)).trans (h2.trans ?_)
  rw [S_append, S_cons]
  rw [S_zero (l := pre) fun q hq => by rw [D_mem_left (mem_cols hq), Int.mul_zero], S_zero (l := post) fun q hq => by rw [D_mem_right (mem_cols hq), Int.mul_zero]]
  simp [colsOf]

def optC (y : Nat × Nat → Int) (z : Int) : Option (Nat × Nat) → Int | some q => y q | none => z
def optV (A : Nat → Nat → Int) (i : Nat) : Option (Nat × Nat) → Nat → Int | some q => col A q.2 | none => fun x => if x = i then 1 else 0

theorem cramer_out {A : Nat → Nat → Int} {pv : List (Nat × Nat)} {e z : Int} {y : Nat × Nat → Int} {i j : Nat} {R : List Nat} (hl : pv.length = R.length) (hi : i ∉ R)
    (h : ∀ x ∈ R, e * A x j = S pv fun q => y q * A x q.2) (h' : e * A i j = z + S pv fun q => y q * A i q.2) :
    e * D (colsOf A pv ++ [col A j]) (R ++ [i]) = z * D (colsOf A pv) R := by
  have h1 := D_sum [()] (fun _ => e) (fun _ => col A j) (colsOf A pv) [] (R ++ [i])
  simp only [S_cons, S_nil, Int.add_zero] at h1
  have h2 := D_sum (pv.map some ++ [none]) (optC y z) (optV A i) (colsOf A pv) [] (R ++ [i])
  rw [← h1]
  refine (D_at _ (fun r => S (pv.map some ++ [none]) fun o => optC y z o * optV A i o r) [] (colsOf A pv) (R ++ [i]) (fun r hr => ?_)).trans (h2.trans ?_)
  · rw [S_append, S_map]
    simp only [S_cons, S_nil, Int.add_zero, optC, optV]
    rcases List.mem_append.1 hr with hr | hr
    · have : r ≠ i := fun he => hi (he ▸ hr)
      simp only [this, if_false, Int.mul_zero, Int.add_zero]
      exact h r hr
    · simp only [List.mem_singleton] at hr
      subst hr
      simp only [if_true, Int.mul_one]
      rw [Int.add_comm]
      exact h'
  · rw [S_append, S_map]
    simp only [S_cons, S_nil, Int.add_zero, optC, optV]
    rw [S_zero fun q hq => by rw [D_mem_left (mem_cols hq), Int.mul_zero], Int.zero_add]
    rw [D_unit _ i (by simp) _ _ (by simp [colsOf, hl]) fun r hr => by simp; intro he; subst he; exact hi hr]

section
variable {A : Nat → Nat → Int} {m : Nat} {pv : List (Nat × Nat)} {M : Nat → Nat → Int} {d : Int}

theorem rowsOf_length (pv : List (Nat × Nat)) : (rowsOf pv).length = pv.length := by simp [rowsOf]
theorem Bar.in_ (h : Bar A m pv M d) {x : Nat} (hx : x ∈ rowsOf pv) (j : Nat) : d * A x j = S pv fun q => M q.1 j * A x q.2 := by
  have hm : x < m := by
    obtain ⟨q, hq, rfl⟩ := List.mem_map.1 hx
    exact h.lt q hq
  have := h.rel x hm j
  rw [if_pos hx, Int.zero_add] at this
  rw [this]
  exact S_congr fun q _ => Int.mul_comm _ _
theorem Bar.out_ (h : Bar A m pv M d) {x : Nat} (hm : x < m) (hx : x ∉ rowsOf pv) (j : Nat) : d * A x j = M x j + S pv fun q => M q.1 j * A x q.2 := by
  have := h.rel x hm j
  rw [if_neg hx] at this
  rw [this]
  congr 1
  exact S_congr fun q _ => Int.mul_comm _ _

/-- A pivot's row: determinants with its column replaced. -/
theorem Bar.pivot (h : Bar A m pv M d) {pre post : List (Nat × Nat)} {q0 : Nat × Nat} (hp : pv = pre ++ q0 :: post) (j : Nat) : M q0.1 j = D (colsOf A pre ++ col A j :: colsOf A post) (rowsOf pv) := by
  have h1 := cramer_at (A := A) (pre := pre) (post := post) (q0 := q0) (e := d) (y := fun q => M q.1 j) (j := j) (R := rowsOf pv) (fun x hx => by rw [← hp]; exact h.in_ hx j)
  rw [← hp, ← h.det, Int.mul_comm (M q0.1 j)] at h1
  exact (Int.eq_of_mul_eq_mul_left h.ne h1).symm
/-- Another row. -/
theorem Bar.other (h : Bar A m pv M d) {i : Nat} (hm : i < m) (hi : i ∉ rowsOf pv) (j : Nat) : M i j = D (colsOf A pv ++ [col A j]) (rowsOf pv ++ [i]) := by
  have h1 := cramer_out (A := A) (pv := pv) (e := d) (z := M i j) (y := fun q => M q.1 j) (i := i) (j := j) (R := rowsOf pv) (rowsOf_length pv).symm hi (fun x hx => h.in_ hx j) (h.out_ hm hi j)
  rw [← h.det, Int.mul_comm (M i j)] at h1
  exact (Int.eq_of_mul_eq_mul_left h.ne h1).symm

/-- The rows behind a pivot at row i0, column c, before the division. -/
def raw (M : Nat → Nat → Int) (i0 c x j : Nat) : Int := M i0 c * M x j - M x c * M i0 j

theorem raw_rel (h : Bar A m pv M d) {i0 c : Nat} (x : Nat) (hx : x < m) (j : Nat) :
    d * M i0 c * A x j = (if x ∈ rowsOf pv then 0 else raw M i0 c x j) + (S pv fun q => A x q.2 * raw M i0 c q.1 j) + A x c * (d * M i0 j) := by
  have h1 := h.rel x hx j
  have h2 := h.rel x hx c
  have h3 : S pv (fun q => A x q.2 * raw M i0 c q.1 j) = M i0 c * S pv (fun q => A x q.2 * M q.1 j) - S pv (fun q => A x q.2 * M q.1 c) * M i0 j := by
    rw [← S_mul, ← S_mul_right, Int.sub_eq_add_neg, ← S_neg, ← S_add]
    refine S_congr fun q _ => ?_
    unfold raw
    rw [Int.mul_sub, Int.sub_eq_add_neg, Int.mul_left_comm, Int.mul_assoc]
  rw [h3]
  generalize S pv (fun q => A x q.2 * M q.1 j) = s1 at *
  generalize S pv (fun q => A x q.2 * M q.1 c) = s2 at *
  have e1 : d * M i0 c * A x j = M i0 c * (d * A x j) := by rw [Int.mul_comm d, Int.mul_assoc]
  have e2 : A x c * (d * M i0 j) = (d * A x c) * M i0 j := by rw [Int.mul_left_comm, Int.mul_assoc]
  rw [e1, e2, h1, h2]
  split
  · simp only [Int.zero_add]; omega
  · unfold raw
    rw [Int.mul_add, Int.add_mul]
    omega

variable {i0 c : Nat}

theorem step_det (h : Bar A m pv M d) (h0 : i0 < m) (hi : i0 ∉ rowsOf pv) : M i0 c = D (colsOf A (pv ++ [(i0, c)])) (rowsOf (pv ++ [(i0, c)])) := by
  rw [h.other h0 hi c]
  simp [colsOf, rowsOf]

theorem rows_snoc (pv : List (Nat × Nat)) (q : Nat × Nat) : rowsOf (pv ++ [q]) = rowsOf pv ++ [q.1] := by simp [rowsOf]

/-- (K) as the new pivots have it. -/
def newY (M : Nat → Nat → Int) (d : Int) (i0 c j : Nat) (q : Nat × Nat) : Int := if q.1 = i0 then d * M i0 j else raw M i0 c q.1 j
theorem raw_rel' (h : Bar A m pv M d) (hi : i0 ∉ rowsOf pv) (x : Nat) (hx : x < m) (j : Nat) :
    d * M i0 c * A x j = (if x ∈ rowsOf (pv ++ [(i0, c)]) then 0 else raw M i0 c x j) + S (pv ++ [(i0, c)]) fun q => newY M d i0 c j q * A x q.2 := by
  rw [raw_rel h (i0 := i0) (c := c) x hx j, S_append]
  simp only [S_cons, S_nil, Int.add_zero]
  have e1 : S pv (fun q => newY M d i0 c j q * A x q.2) = S pv fun q => A x q.2 * raw M i0 c q.1 j := S_congr fun q hq => by
    have : q.1 ≠ i0 := fun he => hi (he ▸ List.mem_map.2 ⟨q, hq, rfl⟩)
    unfold newY
    rw [if_neg this, Int.mul_comm]
  have e2 : newY M d i0 c j (i0, c) = d * M i0 j := by unfold newY; rw [if_pos rfl]
  have e3 : (if x ∈ rowsOf (pv ++ [(i0, c)]) then 0 else raw M i0 c x j) = if x ∈ rowsOf pv then 0 else raw M i0 c x j := by
    rw [rows_snoc]
    by_cases hxr : x ∈ rowsOf pv
    · rw [if_pos (by simp [hxr]), if_pos hxr]
    · rw [if_neg hxr]
      by_cases hx0 : x = i0
      · subst hx0
        rw [if_pos (by simp)]
        unfold raw
        omega
      · rw [if_neg (by simp [hxr, hx0])]
  rw [e1, e2, e3, Int.mul_comm (d * M i0 j)]
  omega

theorem nodup_snoc {l : List Nat} {x : Nat} (h : l.Nodup) (hx : x ∉ l) : (l ++ [x]).Nodup := by
  rw [List.nodup_append]
  exact ⟨h, by simp, fun a ha b hb => by simp at hb; subst hb; intro e; subst e; exact hx ha⟩

/-- THE DIVISION IS EXACT. -/
theorem raw_dvd (h : Bar A m pv M d) (h0 : i0 < m) (hi : i0 ∉ rowsOf pv) (hp : M i0 c ≠ 0) (x : Nat) (hx : x < m) (j : Nat) (hx0 : x ≠ i0) : d ∣ raw M i0 c x j := by
  have hdet := step_det (c := c) h h0 hi
  have hin : ∀ y ∈ rowsOf (pv ++ [(i0, c)]), y < m := fun y hy => by
    rw [rows_snoc] at hy
    rcases List.mem_append.1 hy with hy | hy
    · obtain ⟨q, hq, rfl⟩ := List.mem_map.1 hy
      exact h.lt q hq
    · simp at hy; omega
  have hK : ∀ y ∈ rowsOf (pv ++ [(i0, c)]), d * M i0 c * A y j = S (pv ++ [(i0, c)]) fun q => newY M d i0 c j q * A y q.2 := fun y hy => by
    rw [raw_rel' h hi y (hin y hy) j, if_pos hy, Int.zero_add]
  by_cases hxr : x ∈ rowsOf pv
  · obtain ⟨q0, hq0, rfl⟩ := List.mem_map.1 hxr
    obtain ⟨pre, post, hpp⟩ := List.append_of_mem hq0
    have h1 := cramer_at (A := A) (pre := pre) (post := post ++ [(i0, c)]) (q0 := q0) (e := d * M i0 c) (y := newY M d i0 c j) (j := j) (R := rowsOf (pv ++ [(i0, c)])) (fun y hy => by
      rw [hK y hy, hpp]; simp)
    have e1 : pre ++ q0 :: (post ++ [(i0, c)]) = pv ++ [(i0, c)] := by rw [hpp]; simp
    have e2 : newY M d i0 c j q0 = raw M i0 c q0.1 j := by unfold newY; rw [if_neg hx0]
    rw [e1, ← hdet, e2, Int.mul_comm d, Int.mul_assoc, Int.mul_comm (raw M i0 c q0.1 j)] at h1
    exact ⟨_, (Int.eq_of_mul_eq_mul_left hp h1).symm⟩
  · have hx' : x ∉ rowsOf (pv ++ [(i0, c)]) := by rw [rows_snoc]; simp [hxr, hx0]
    have h1 := cramer_out (A := A) (pv := pv ++ [(i0, c)]) (e := d * M i0 c) (z := raw M i0 c x j) (y := newY M d i0 c j) (i := x) (j := j) (R := rowsOf (pv ++ [(i0, c)])) (rowsOf_length _).symm hx' hK (by
      have := raw_rel' (c := c) h hi x hx j
      rwa [if_neg hx'] at this)
    rw [← hdet, Int.mul_comm d, Int.mul_assoc, Int.mul_comm (raw M i0 c x j)] at h1
    exact ⟨_, (Int.eq_of_mul_eq_mul_left hp h1).symm⟩

/-- THE STEP: the rows after the pivot. -/
theorem Bar.step (h : Bar A m pv M d) (h0 : i0 < m) (hi : i0 ∉ rowsOf pv) (hp : M i0 c ≠ 0) {M' : Nat → Nat → Int} (hM0 : ∀ j, M' i0 j = M i0 j) (hM : ∀ x, x < m → x ≠ i0 → ∀ j, d * M' x j = raw M i0 c x j) :
    Bar A m (pv ++ [(i0, c)]) M' (M i0 c) := by
  refine ⟨by rw [rows_snoc]; exact nodup_snoc h.nodup hi, fun q hq => ?_, hp, step_det h h0 hi, fun x hx j => ?_⟩
  · rcases List.mem_append.1 hq with hq | hq
    · exact h.lt q hq
    · simp at hq; rw [hq]; exact h0
  · refine Int.eq_of_mul_eq_mul_left h.ne ?_
    rw [← Int.mul_assoc, raw_rel' h hi x hx j, Int.mul_add, ← S_mul]
    congr 1
    · split
      · simp
      · rename_i hxr
        rw [hM x hx (fun e => hxr (by rw [rows_snoc, e]; simp)) j]
    · refine S_congr fun q hq => ?_
      unfold newY
      rcases List.mem_append.1 hq with hq | hq
      · have hne : q.1 ≠ i0 := fun he => hi (he ▸ List.mem_map.2 ⟨q, hq, rfl⟩)
        rw [if_neg hne, ← hM q.1 (h.lt q hq) hne j, Int.mul_assoc]
        congr 1
        exact Int.mul_comm _ _
      · simp at hq
        subst hq
        rw [if_pos rfl, hM0, Int.mul_assoc]
        congr 1
        exact Int.mul_comm _ _

/-! ### The pivots' own columns -/
theorem Bar.diag (h : Bar A m pv M d) {pre post : List (Nat × Nat)} {q0 : Nat × Nat} (hp : pv = pre ++ q0 :: post) : M q0.1 q0.2 = d := by
  rw [h.pivot hp, h.det, hp]
  simp [colsOf]
theorem Bar.off (h : Bar A m pv M d) {pre post : List (Nat × Nat)} {q0 q : Nat × Nat} (hp : pv = pre ++ q0 :: post) (hq : q ∈ pre ∨ q ∈ post) : M q0.1 q.2 = 0 := by
  rw [h.pivot hp]
  rcases hq with hq | hq
  · exact D_mem_left (mem_cols hq) _ _
  · exact D_mem_right (mem_cols hq) _ _
theorem Bar.zero (h : Bar A m pv M d) {i : Nat} (hm : i < m) (hi : i ∉ rowsOf pv) {q : Nat × Nat} (hq : q ∈ pv) : M i q.2 = 0 := by
  rw [h.other hm hi]
  exact D_mem_left (mem_cols hq) _ _
end
end Go.Proofs.Ytbclbcldplmppaa

/- The equations with their origins beside them; what elimination leaves; its numbers are small. Plain Lean. -/
namespace Go.Proofs.Ytbclbcldplmppaa

/-- The matrix: the lines, and a unit matrix beside them. -/
def augA (n : Nat) (lines : Nat → List Int) (x j : Nat) : Int := if j < n then getI (lines x) j else if j - n = x then 1 else 0

/-! ### Sums of absolute values -/
theorem S_set_le (n : Nat) (L : List Int) (a : Nat) (v : Int) : S (List.range n) (fun j => ((getI (L.set a v) j).natAbs : Int)) ≤ S (List.range n) (fun j => ((getI L j).natAbs : Int)) + (v.natAbs : Int) := by
  have h : ∀ (l : List Nat), l.Nodup → S l (fun j => ((getI (L.set a v) j).natAbs : Int)) ≤ S l (fun j => ((getI L j).natAbs : Int)) + (if a ∈ l then (v.natAbs : Int) else 0) := by
    intro l
    induction l with
    | nil => intro _; simp
    | cons y l ih =>
      intro hn
      rw [List.nodup_cons] at hn
      have := ih hn.2
      rw [S_cons, S_cons]
      by_cases e : y = a
      · subst e
        rw [if_neg hn.1] at this
        rw [if_pos (by simp)]
        have h1 : ((getI (L.set y v) y).natAbs : Int) ≤ (v.natAbs : Int) := by
          unfold getI
          by_cases hy : y < L.length
          · rw [List.getElem?_set_self hy]; simp
          · rw [List.getElem?_eq_none (by simp; omega)]; simp
        have h2 : (0 : Int) ≤ ((getI L y).natAbs : Int) := by omega
        omega
      · have h1 : getI (L.set a v) y = getI L y := by unfold getI; rw [List.getElem?_set_ne (fun h => e h.symm)]
        rw [h1]
        have h2 : (if a ∈ y :: l then (v.natAbs : Int) else 0) = if a ∈ l then (v.natAbs : Int) else 0 := by
          have : a ∈ y :: l ↔ a ∈ l := by
            constructor
            · intro hh; rcases List.mem_cons.1 hh with h | h
              · exact absurd h.symm e
              · exact h
            · intro h; exact List.mem_cons.2 (.inr h)
          simp [this]
        rw [h2]
        omega
  have := h (List.range n) List.nodup_range
  split at this <;> omega
theorem S_zeros (n m : Nat) : S (List.range n) (fun j => ((getI (List.replicate m 0) j).natAbs : Int)) = 0 :=
  S_zero fun j _ => by
    unfold getI
    by_cases h : j < m
    · rw [List.getElem?_replicate, if_pos h]; rfl
    · rw [List.getElem?_replicate, if_neg h]; rfl

theorem facS_small {x : Msh} {n : Nat} (h : validB x (n : Int) = true) : S (List.range n) (fun j => ((getI (facS x n) j).natAbs : Int)) ≤ 96 := by
  have hv : validP x n := of_decide_eq_true h
  have hk := nsS_kind hv.1
  have ht : teethS x.kind = true → (1 ≤ x.n ∧ x.n ≤ 24) ∧ (1 ≤ x.m ∧ x.m ≤ 24) := fun e => by
    have := hv.2.2.2.2
    rwa [if_pos e] at this
  have h0 := S_zeros n n
  unfold facS
  split
  · rename_i h1
    have := ht (by simp [teethS, h1])
    have a1 := S_set_le n (List.replicate n 0) x.a.toNat x.n
    have a2 := S_set_le n ((List.replicate n 0).set x.a.toNat x.n) x.b.toNat x.m
    omega
  split
  · rename_i _ h1
    have := ht (by simp [teethS, h1])
    have a1 := S_set_le n (List.replicate n 0) x.a.toNat x.n
    have a2 := S_set_le n ((List.replicate n 0).set x.a.toNat x.n) x.b.toNat (-x.m)
    omega
  split
  · have a1 := S_set_le n (List.replicate n 0) x.a.toNat 1
    omega
  split
  · have a1 := S_set_le n (List.replicate n 0) x.a.toNat 1
    have a2 := S_set_le n ((List.replicate n 0).set x.a.toNat 1) x.b.toNat 1
    have a3 := S_set_le n (((List.replicate n 0).set x.a.toNat 1).set x.b.toNat 1) x.c.toNat (-2)
    omega
  split
  · rename_i h1
    have := ht (by simp [teethS, h1])
    have a1 := S_set_le n (List.replicate n 0) x.a.toNat x.n
    have a2 := S_set_le n ((List.replicate n 0).set x.a.toNat x.n) x.b.toNat x.m
    have a3 := S_set_le n (((List.replicate n 0).set x.a.toNat x.n).set x.b.toNat x.m) x.c.toNat (-(x.n + x.m))
    omega
  · have a1 := S_set_le n (List.replicate n 0) x.a.toNat 1
    have a2 := S_set_le n ((List.replicate n 0).set x.a.toNat 1) x.b.toNat (-1)
    omega

/-- A sum over some different indices is at most that over all. -/
theorem S_sub_le {f : Nat → Int} (hf : ∀ x, 0 ≤ f x) : ∀ (l l' : List Nat), l.Nodup → (∀ x ∈ l, x ∈ l') → S l f ≤ S l' f
  | [], l', _, _ => by
    have : ∀ l' : List Nat, 0 ≤ S l' f := fun l' => by
      induction l' with
      | nil => simp
      | cons y l' ih => rw [S_cons]; have := hf y; omega
    simpa using this l'
  | x :: l, l', hn, hs => by
    rw [List.nodup_cons] at hn
    obtain ⟨l1, l2, rfl⟩ := List.append_of_mem (hs x (by simp))
    have ih := S_sub_le hf l (l1 ++ l2) hn.2 fun y hy => by
      have := hs y (by simp [hy])
      simp only [List.mem_append, List.mem_cons] at this ⊢
      rcases this with h | h | h
      · exact .inl h
      · subst h; exact absurd hy hn.1
      · exact .inr h
    rw [S_append] at ih
    rw [S_cons, S_append, S_cons]
    omega

theorem aug_small {n : Nat} {lines : Nat → List Int} {x : Nat} (h : S (List.range n) (fun j => ((getI (lines x) j).natAbs : Int)) ≤ 96) (C : List Nat) (hC : C.Nodup) : S C (fun j => ((augA n lines x j).natAbs : Int)) ≤ 97 := by
  have h1 : ∀ C : List Nat, S C (fun j => ((augA n lines x j).natAbs : Int)) = S C (fun j => if j < n then ((getI (lines x) j).natAbs : Int) else 0) + S C (fun j => if j = n + x then (1 : Int) else 0) := fun C => by
    rw [← S_add]
    refine S_congr fun j _ => ?_
    unfold augA
    by_cases hj : j < n
    · rw [if_pos hj, if_pos hj, if_neg (by omega)]; omega
    · rw [if_neg hj, if_neg hj]
      by_cases e : j - n = x
      · rw [if_pos e, if_pos (by omega)]; rfl
      · rw [if_neg e, if_neg (by omega)]; rfl
  rw [h1]
  have h2 : S C (fun j => if j < n then ((getI (lines x) j).natAbs : Int) else 0) ≤ 96 := by
    have e := S_sub_le (f := fun j => if j < n then ((getI (lines x) j).natAbs : Int) else 0) (fun y => by split <;> omega) (C.filter (· < n)) (List.range n) (hC.filter _) (fun y hy => by simp at hy ⊢; exact hy.2)
    have e2 : S (List.range n) (fun j => if j < n then ((getI (lines x) j).natAbs : Int) else 0) = S (List.range n) (fun j => ((getI (lines x) j).natAbs : Int)) := S_congr fun j hj => if_pos (List.mem_range.1 hj)
    have e3 : ∀ C : List Nat, S (C.filter (· < n)) (fun j => if j < n then ((getI (lines x) j).natAbs : Int) else 0) = S C (fun j => if j < n then ((getI (lines x) j).natAbs : Int) else 0) := fun C => by
      induction C with
      | nil => rfl
      | cons y C ih =>
        rw [List.filter_cons]
        by_cases hy : y < n
        · rw [if_pos (by simpa using hy), S_cons, S_cons, ih]
        · rw [if_neg (by simpa using hy), S_cons, if_neg hy, ih]; omega
    rw [← e3]
    omega
  have h3 : S C (fun j => if j = n + x then (1 : Int) else 0) ≤ 1 := by
    have : ∀ C : List Nat, C.Nodup → S C (fun j => if j = n + x then (1 : Int) else 0) ≤ (if n + x ∈ C then 1 else 0) := fun C => by
      induction C with
      | nil => intro _; simp
      | cons y C ih =>
        intro hn
        rw [List.nodup_cons] at hn
        have := ih hn.2
        rw [S_cons]
        by_cases e : y = n + x
        · subst e
          rw [if_neg hn.1] at this
          rw [if_pos rfl, if_pos (by simp)]
          omega
        · rw [if_neg e]
          have h2 : (if n + x ∈ y :: C then (1 : Int) else 0) = if n + x ∈ C then 1 else 0 := by
            have : n + x ∈ y :: C ↔ n + x ∈ C := by
              constructor
              · intro hh; rcases List.mem_cons.1 hh with h | h
                · exact absurd h.symm e
                · exact h
              · intro h; exact List.mem_cons.2 (.inr h)
            simp [this]
          rw [h2]; omega
    have := this C hC
    split at this <;> omega
  omega

theorem D_small {A : Nat → Nat → Int} {m : Nat} (hA : ∀ x, x < m → ∀ C : List Nat, C.Nodup → S C (fun j => ((A x j).natAbs : Int)) ≤ 97) (C R : List Nat) (hC : C.Nodup) (hR : ∀ r ∈ R, r < m) (hl : C.length = R.length) (h9 : R.length ≤ 9) :
    (D (C.map (col A)) R).natAbs < 4611686018427387904 := by
  have h1 := (D_bound (C.map (col A)) R).resolve_right (by simpa using hl)
  have h2 : P' R (fun r => S (C.map (col A)) fun v => ((v r).natAbs : Int)) ≤ (97 : Int) ^ R.length := P_const fun r hr => ⟨S_abs_nonneg _ r, by
    rw [S_map]
    exact hA r (hR r hr) C hC⟩
  have h3 : (97 : Int) ^ R.length ≤ 97 ^ 9 := by
    have hn : 97 ^ R.length ≤ 97 ^ 9 := Nat.pow_le_pow_right (by decide) h9
    have hc : ∀ k : Nat, ((97 ^ k : Nat) : Int) = (97 : Int) ^ k := fun k => Int.natCast_pow 97 k
    rw [← hc, ← hc]
    exact Int.ofNat_le.2 hn
  have h4 : ((D (C.map (col A)) R).natAbs : Int) ≤ 97 ^ 9 := Int.le_trans h1 (Int.le_trans h2 h3)
  have h5 : (97 : Int) ^ 9 < 4611686018427387904 := by decide +kernel
  omega

/-! ### The state -/
def colsP (pv : List (Nat × Nat)) : List Nat := pv.map (·.2)
theorem colsOf_eq (A : Nat → Nat → Int) (pv : List (Nat × Nat)) : colsOf A pv = (colsP pv).map (col A) := by simp [colsOf, colsP]

/-- Bounds of what elimination leaves. -/
theorem Bar.small {A : Nat → Nat → Int} {m : Nat} {pv : List (Nat × Nat)} {M : Nat → Nat → Int} {d : Int} (h : Bar A m pv M d)
    (hA : ∀ x, x < m → ∀ C : List Nat, C.Nodup → S C (fun j => ((A x j).natAbs : Int)) ≤ 97) (hc : (colsP pv).Nodup) (h8 : pv.length ≤ 8) :
    d.natAbs < 4611686018427387904 ∧ ∀ x, x < m → ∀ j, (M x j).natAbs < 4611686018427387904 := by
  have hR : ∀ r ∈ rowsOf pv, r < m := fun r hr => by
    obtain ⟨q, hq, rfl⟩ := List.mem_map.1 hr
    exact h.lt q hq
  refine ⟨?_, fun x hx j => ?_⟩
  · rw [h.det, colsOf_eq]
    exact D_small hA _ _ hc hR (by simp [colsP, rowsOf]) (by rw [rowsOf_length]; omega)
  · by_cases hxr : x ∈ rowsOf pv
    · obtain ⟨q0, hq0, rfl⟩ := List.mem_map.1 hxr
      obtain ⟨pre, post, hpp⟩ := List.append_of_mem hq0
      rw [h.pivot hpp j]
      by_cases hj : j ∈ colsP pre ∨ j ∈ colsP post
      · have : D (colsOf A pre ++ col A j :: colsOf A post) (rowsOf pv) = 0 := by
          rcases hj with hj | hj
          · obtain ⟨q, hq, rfl⟩ := List.mem_map.1 hj
            exact D_mem_left (mem_cols hq) _ _
          · obtain ⟨q, hq, rfl⟩ := List.mem_map.1 hj
            exact D_mem_right (mem_cols hq) _ _
        rw [this]; decide
      · have e : colsOf A pre ++ col A j :: colsOf A post = (colsP pre ++ j :: colsP post).map (col A) := by simp [colsOf_eq]
        rw [e]
        refine D_small hA _ _ ?_ hR (by rw [hpp]; simp [colsP, rowsOf]) (by rw [rowsOf_length]; omega)
        have hc' : (colsP pre ++ q0.2 :: colsP post).Nodup := by rw [hpp] at hc; simpa [colsP] using hc
        rw [List.nodup_append] at hc' ⊢
        obtain ⟨n1, n2, n3⟩ := hc'
        rw [List.nodup_cons] at n2 ⊢
        refine ⟨n1, ⟨fun hm => hj (.inr hm), n2.2⟩, fun a ha b hb => ?_⟩
        rcases List.mem_cons.1 hb with rfl | hb
        · intro e; subst e; exact hj (.inl ha)
        · exact n3 a ha b (by simp [hb])
    · rw [h.other hx hxr j]
      by_cases hj : j ∈ colsP pv
      · obtain ⟨q, hq, rfl⟩ := List.mem_map.1 hj
        rw [D_mem_left (mem_cols hq)]; decide
      · have e : colsOf A pv ++ [col A j] = (colsP pv ++ [j]).map (col A) := by simp [colsOf_eq]
        rw [e]
        refine D_small hA _ _ (nodup_snoc hc hj) (fun r hr => ?_) (by simp [colsP, rowsOf]) (by simp [rowsOf]; omega)
        rcases List.mem_append.1 hr with hr | hr
        · exact hR r hr
        · simp at hr; omega
end Go.Proofs.Ytbclbcldplmppaa
