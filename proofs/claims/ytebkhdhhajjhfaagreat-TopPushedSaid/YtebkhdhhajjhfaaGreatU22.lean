/- Kinds without knobs: valid ones pass. -/
import Derived.Test.YtebkhdhhajjhfaaGreatU21
import Derived.Test.YtebkhdhhajjhfaaGreatU01
import Derived.Maps.OwnRows
import Derived.WideKeyEntry
import Derived.Maps.OwnSet
import Derived.WideKeyPair
import Derived.Test.YtebkhdhhajjhfaaGreatU15
import Derived.Shelf.SlGeneric
import Derived.Shelf.SlSortCmp.WholeK
import Derived.Ground.SlsfProg
namespace Go.Proofs.YtebkhdhhajjhfaaGreat.Lt
open Go.RowKit
end Go.Proofs.YtebkhdhhajjhfaaGreat.Lt

/- CheckKind: it returns 0 exactly at valid kinds. -/
namespace Go.Proofs.YtebkhdhhajjhfaaGreat.Lt
open Go.RowKit
/-- A valid knob of cells. -/
def knP (cs : List Ce) (x : Kn) : Prop := (x.dir ≤ 5 ∧ 1 ≤ x.srt ∧ x.srt ≤ 6) ∧ x.at_ ∈ cs ∧ plusC x.at_ (stepC x.dir.toNat) ∉ cs
/-- The order of knobs. -/
def ordK (a b : Kn) : Int := (([ordC a.at_ b.at_, cmpI a.dir b.dir] : List Int).find? fun x => x != 0).getD 0
/-- A valid kind. -/
structure KiOk (k : Ki) : Prop where
  n0 : 1 ≤ k.cs.length
  n1 : k.cs.length ≤ 24
  m1 : k.ks.length ≤ 48
  w0 : 1 ≤ k.wt
  w1 : k.wt ≤ 100
  near : ∀ i, i < k.cs.length → nearP (ceA k.cs i) 0 15
  asc : ∀ i, i + 1 < k.cs.length → ordC (ceA k.cs i) (ceA k.cs (i + 1)) < 0
  kn : ∀ i, i < k.ks.length → knP k.cs (knA k.ks i)
  kasc : ∀ i, i + 1 < k.ks.length → ordK (knA k.ks i) (knA k.ks (i + 1)) < 0
set_option maxRecDepth 100000 in
theorem cmp8_any (a b : Int) (w : World) : Calls Tryz.prog 146 #[.int .u8 a, .int .u8 b] w fun e w' => e = .returned (.int .i64 (cmpI a b)) ∧ w = w' := by
  have h1 : a < b → (-1 : Int) = cmpI a b := fun h => by unfold cmpI; rw [if_pos h]
  have h2 : b < a → (1 : Int) = cmpI a b := fun h => by unfold cmpI; rw [if_neg (by omega), if_pos h]
  have h3 : a = b → (0 : Int) = cmpI a b := fun h => by unfold cmpI; rw [if_neg (by omega), if_neg (by omega)]
  have H1 := Lib.hid h1
  have H2 := Lib.hid h2
  have H3 := Lib.hid h3
  clear h1 h2 h3
  generalize cmpI a b = R at *
  by_cases ha : a < b
  · have hb : ¬ a > b := by omega
    go_enter Tryz.func146, Tryz.ntmps146
    go_wp2
    go_ret
    exact ⟨ret_i (H1.out ha), rfl⟩
  · by_cases hb : a > b
    · go_enter Tryz.func146, Tryz.ntmps146
      go_wp2
      go_ret
      exact ⟨ret_i (H2.out hb), rfl⟩
    · have he : a = b := by omega
      go_enter Tryz.func146, Tryz.ntmps146
      go_wp2
      go_ret
      exact ⟨ret_i (H3.out he), rfl⟩
/-- It returns 0 exactly if P. -/
abbrev Tells (P : Prop) (w : World) (e : Ending) (w' : World) : Prop := ∃ x : Int, e = .returned (.int .i64 x) ∧ (x = 0 ↔ P) ∧ Ext w w'
theorem tells_no {P : Prop} {w w' : World} {x : Int} (hx : x ≠ 0) (h : ¬ P) (he : Ext w w') : Tells P w (.returned (.int .i64 x)) w' := ⟨x, rfl, ⟨fun e => absurd e hx, fun p => absurd p h⟩, he⟩
theorem tells_yes {P : Prop} {w w' : World} (h : P) (he : Ext w w') : Tells P w (.returned (.int .i64 0)) w' := ⟨0, rfl, ⟨fun _ => h, fun _ => rfl⟩, he⟩

set_option maxRecDepth 100000 in
set_option maxHeartbeats 1000000 in
theorem checkkind_size (k : Ki) (B : Option Addr) (b : Nat) (D : Option Addr) (d : Nat) (w : World) (h : k.cs.length < 1 ∨ 1 ≤ k.cs.length ∧ (24 < k.cs.length ∨ k.cs.length ≤ 24 ∧ (48 < k.ks.length ∨ k.ks.length ≤ 48 ∧ (k.wt < 1 ∨ 1 ≤ k.wt ∧ 100 < k.wt)))) :
    Calls Tryz.prog 106 #[.agg #[.slice B k.cs.length b, .slice D k.ks.length d, .int .i64 k.wt]] w (Tells (KiOk k) w) := by
  have hno : ¬ KiOk k := fun hk => by have := hk.n0; have := hk.n1; have := hk.m1; have := hk.w0; have := hk.w1; omega
  have Hno := Lib.hid hno
  clear hno
  obtain ⟨cs, ks, wt⟩ := k
  simp only at h ⊢
  generalize cs.length = n at *
  generalize ks.length = m at *
  have kb : Blk (w.alloc (.cells #[.slice B n b, .slice D m d, .int .i64 wt] 82)) w.heap.size [.slice B n b, .slice D m d, .int .i64 wt] := Blk.new _ _
  have b0 := kb.at_ 0 rfl
  have b1 := kb.at_ 1 rfl
  have b2 := kb.at_ 2 rfl
  have Hx0 := Lib.hid (show Ext w (w.alloc (.cells #[.slice B n b, .slice D m d, .int .i64 wt] 82)) from (Ext.refl _).alloc _)
  clear kb
  rcases h with h | ⟨h1, h | ⟨h2, h | ⟨h3, h | ⟨h4, h⟩⟩⟩⟩
  · have e0 : (n : Int) < 1 := by omega
    clear h 
    go_enter Tryz.func106, Tryz.ntmps106
    go_wp2
    go_ret
    exact tells_no (by decide) Hno.out Hx0.out
  · have e0 : ¬ ((n : Int) < 1) := by omega
    have e1 : (n : Int) > 24 := by omega
    clear h h1
    go_enter Tryz.func106, Tryz.ntmps106
    go_wp2
    go_ret
    exact tells_no (by decide) Hno.out Hx0.out
  · have e0 : ¬ ((n : Int) < 1) := by omega
    have e1 : ¬ ((n : Int) > 24) := by omega
    have e2 : (m : Int) > 48 := by omega
    clear h h1 h2
    go_enter Tryz.func106, Tryz.ntmps106
    go_wp2
    go_ret
    exact tells_no (by decide) Hno.out Hx0.out
  · have e0 : ¬ ((n : Int) < 1) := by omega
    have e1 : ¬ ((n : Int) > 24) := by omega
    have e2 : ¬ ((m : Int) > 48) := by omega
    have e3 : wt < 1 := by omega
    clear h h1 h2 h3
    go_enter Tryz.func106, Tryz.ntmps106
    go_wp2
    go_ret
    exact tells_no (by decide) Hno.out Hx0.out
  · have e0 : ¬ ((n : Int) < 1) := by omega
    have e1 : ¬ ((n : Int) > 24) := by omega
    have e2 : ¬ ((m : Int) > 48) := by omega
    have e3 : ¬ (wt < 1) := by omega
    have e4 : wt > 100 := by omega
    clear h h1 h2 h3 h4
    go_enter Tryz.func106, Tryz.ntmps106
    go_wp2
    go_ret
    exact tells_no (by decide) Hno.out Hx0.out
set_option maxRecDepth 100000 in
set_option maxHeartbeats 4000000 in
theorem checkkind_gen (k : Ki) (B : Option Addr) (b : Nat) (D : Option Addr) (d : Nat) (w : World) (hB : CeRow w B k.cs) (hD : KnRow w D k.ks) (h8 : ∀ i, i < k.ks.length → 0 ≤ (knA k.ks i).dir) :
    Calls Tryz.prog 106 #[.agg #[.slice B k.cs.length b, .slice D k.ks.length d, .int .i64 k.wt]] w (Tells (KiOk k) w) := by
  by_cases hsz : k.cs.length < 1 ∨ 1 ≤ k.cs.length ∧ (24 < k.cs.length ∨ k.cs.length ≤ 24 ∧ (48 < k.ks.length ∨ k.ks.length ≤ 48 ∧ (k.wt < 1 ∨ 1 ≤ k.wt ∧ 100 < k.wt)))
  · exact checkkind_size k B b D d w hsz
  have s0 : 1 ≤ k.cs.length := by omega
  have s1 : k.cs.length ≤ 24 := by omega
  have s2 : k.ks.length ≤ 48 := by omega
  have s3 : 1 ≤ k.wt := by omega
  have s4 : k.wt ≤ 100 := by omega
  have hat := fun j (hj : j < k.cs.length) => hB.at_ hj
  have hkt := fun j (hj : j < k.ks.length) => hD.at_ hj
  have hnr := fun j w' => near_any (ceA k.cs j) 0 15 w'
  have hor := fun i j w' => (order_any (ceA k.cs i) (ceA k.cs j) w').mono fun e w'' ⟨he, hx⟩ => (show e = Ending.returned (.int .i64 (ordC (ceA k.cs i) (ceA k.cs j))) ∧ Ext w' w'' from ⟨he, hx.ext⟩)
  have hko := fun i j w' => (order_any (knA k.ks i).at_ (knA k.ks j).at_ w').mono fun e w'' ⟨he, hx⟩ => (show e = Ending.returned (.int .i64 (ordC (knA k.ks i).at_ (knA k.ks j).at_)) ∧ Ext w' w'' from ⟨he, hx.ext⟩)
  have hcn := fun (c : Ce) w' (he : Ext w w') => contains_cells k.cs B b c w' (hB.ext he) (by omega)
  have hpl := fun (hn : ∀ i, i < k.cs.length → nearP (ceA k.cs i) 0 15) (c : Ce) (hc : c ∈ k.cs) (j : Nat) w' => (show Calls Tryz.prog 103 #[c.val, (stepC j).val] w' fun e w'' => e = .returned (plusC c (stepC j)).val ∧ Ext w' w'' from plus_any c (stepC j) w' (by
    obtain ⟨i, hi, rfl⟩ := List.getElem_of_mem hc
    have := hn i hi
    rw [ceA_at hi] at this
    unfold nearP at *
    omega) (by have := stepC_near j; unfold nearP at *; omega))
  have hno : ∀ j, j < k.cs.length → ¬ nearP (ceA k.cs j) 0 15 → ¬ KiOk k := fun j hj h hk => h (hk.near j hj)
  have hno2 : ∀ j, j + 1 < k.cs.length → ¬ ordC (ceA k.cs j) (ceA k.cs (j + 1)) < 0 → ¬ KiOk k := fun j hj h hk => h (hk.asc j hj)
  have hno3 : ∀ j, j < k.ks.length → ¬ knP k.cs (knA k.ks j) → ¬ KiOk k := fun j hj h hk => h (hk.kn j hj)
  have hno4 : ∀ j, j + 1 < k.ks.length → ¬ ordK (knA k.ks j) (knA k.ks (j + 1)) < 0 → ¬ KiOk k := fun j hj h hk => h (hk.kasc j hj)
  have hyes : (∀ i, i < k.cs.length → nearP (ceA k.cs i) 0 15) → (∀ i, i + 1 < k.cs.length → ordC (ceA k.cs i) (ceA k.cs (i + 1)) < 0) → (∀ i, i < k.ks.length → knP k.cs (knA k.ks i)) → (∀ i, i + 1 < k.ks.length → ordK (knA k.ks i) (knA k.ks (i + 1)) < 0) → KiOk k := fun h1 h2 h3 h4 => ⟨s0, s1, s2, s3, s4, h1, h2, h3, h4⟩
  obtain ⟨OK, hOK⟩ : ∃ OK : Prop, OK = KiOk k := ⟨_, rfl⟩
  rw [← hOK] at hno hno2 hno3 hno4 hyes ⊢
  obtain ⟨cs, ks, wt⟩ := k
  simp only at hat hkt hnr hor hko hcn hpl hno hno2 hno3 hno4 hyes s0 s1 s2 s3 s4 h8 ⊢
  have Hat := Lib.hid hat
  have Hkt := Lib.hid hkt
  have Hnr := Lib.hid hnr
  have Hor := Lib.hid hor
  have Hko := Lib.hid hko
  have Hcn := Lib.hid hcn
  have Hpl := Lib.hid hpl
  have Hno := Lib.hid hno
  have Hno2 := Lib.hid hno2
  have Hno3 := Lib.hid hno3
  have Hno4 := Lib.hid hno4
  have Hyes := Lib.hid hyes
  have H8 := Lib.hid h8
  clear hat hkt hnr hor hko hcn hpl hno hno2 hno3 hno4 hyes hB hD hOK hsz h8
  generalize cs.length = n at *
  generalize ks.length = m at *
  have h0n : ¬ (n : Int) < 1 := by omega
  have h1n : ¬ (n : Int) > 24 := by omega
  have h2n : ¬ (m : Int) > 48 := by omega
  have h3n : ¬ wt < 1 := by omega
  have h4n : ¬ wt > 100 := by omega
  have kb : Blk (w.alloc (.cells #[.slice B n b, .slice D m d, .int .i64 wt] 82)) w.heap.size [.slice B n b, .slice D m d, .int .i64 wt] := Blk.new _ _
  have b0 := kb.at_ 0 rfl
  have b1 := kb.at_ 1 rfl
  have b2 := kb.at_ 2 rfl
  have Hx0 := Lib.hid (show Ext w (w.alloc (.cells #[.slice B n b, .slice D m d, .int .i64 wt] 82)) from (Ext.refl _).alloc _)
  clear kb
  go_enter Tryz.func106, Tryz.ntmps106
  go_wp2
  have B0 := Lib.hid b0
  have B1 := Lib.hid b1
  clear b0 b1 b2 h0n h1n h2n h3n h4n
  generalize (w.alloc (.cells #[.slice B n b, .slice D m d, .int .i64 wt] 82)) = W at *
  go_loopw [36] (fun i wr => ∃ j : Nat, j ≤ n ∧ i = .int .i64 j ∧ Ext W wr ∧ Hid (∀ i, i < j → nearP (ceA cs i) 0 15) ∧ Hid (∀ i, i + 1 < j → ordC (ceA cs i) (ceA cs (i + 1)) < 0)) (fun i _ => n - (intOf i).toNat)
  case atStart => exact ⟨0, by omega, rfl, Ext.refl _, Lib.hid (fun i h => absurd h (by omega)), Lib.hid (fun i h => absurd h (by omega))⟩
  case round =>
    obtain ⟨j, hj, rfl, hex, HA1, HA2⟩ := hrel
    by_cases hlt : j < n
    · have hji : (j : Int) < (n : Int) := by omega
      obtain ⟨ad, rfl, x0, x1, x2⟩ := Hat.out j hlt
      have hxw := Hx0.out.trans hex
      have u0 := fun w' he => x0 w' (hxw.trans he)
      have u1 := fun w' he => x1 w' (hxw.trans he)
      have u2 := fun w' he => x2 w' (hxw.trans he)
      have b0 := fun w' he => B0.out w' (hex.trans he)
      have Hex := Lib.hid hex
      have hnj := fun w' => Hnr.out j w'
      have Hbad := Lib.hid (Hno.out j hlt)
      have HA3 := Lib.hid (show nearP (ceA cs j) 0 15 → ∀ i, i < j + 1 → nearP (ceA cs i) 0 15 from fun h i hi => by
        rcases (by omega : i < j ∨ i = j) with h' | rfl
        · exact HA1.out i h'
        · exact h)
      have hw1 : IntKind.i64.wrap ((j : Int) + 1) = ((j + 1 : Nat) : Int) := by rw [IntKind.wrap_i64]; omega
      clear x0 x1 x2 hxw hex Hkt Hko Hcn Hpl Hno Hno3 Hno4 Hyes Hnr H8 B1
      by_cases hnear : nearP (ceA cs j) 0 15
      · rw [show nearB (ceA cs j) 0 15 = true from decide_eq_true hnear] at hnj
        have HA4 := Lib.hid (HA3.out hnear)
        have Hnj := Lib.hid hnj
        clear hnear HA3 hnj Hbad
        by_cases hz : j = 0
        · subst hz
          obtain ⟨⟨x, y, z⟩, hq⟩ : ∃ q, ceA cs 0 = q := ⟨_, rfl⟩
          rw [hq] at u0 u1 u2 Hnj
          simp only [Nat.zero_mul, add_zero_] at Hnj u0 u1 u2
          have kq : Blk (wr.alloc (.cells #[.int .i64 x, .int .i64 y, .int .i64 z] 60)) wr.heap.size [.int .i64 x, .int .i64 y, .int .i64 z] := Blk.new _ _
          have q0 := kq.at_ 0 rfl
          have q1 := kq.at_ 1 rfl
          have q2 := kq.at_ 2 rfl
          have Hxq := Lib.hid (show Ext wr (wr.alloc (.cells #[.int .i64 x, .int .i64 y, .int .i64 z] 60)) from (Ext.refl _).alloc _)
          clear kq hq Hat Hor Hno2
          go_wp2
          generalize (wr.alloc (.cells #[.int .i64 x, .int .i64 y, .int .i64 z] 60)) = W2 at *
          clear u0 u1 u2 b0
          refine Cg.wp_region_calm (p := Cg.extPre) (fr := (fun _ => false)) 18 (fun j _ v _ => (j = 1 → v = .bool true)) (fun _ _ _ _ _ _ h => h) (by kernel_rfl) (by kernel_rfl) ?_
          simp only [List.take_succ_cons, List.take_zero, List.drop_succ_cons, List.drop_zero]
          refine Cg.calm_quiet Cg.calm_mono_final W2 (fun _ h => h) 1 (by kernel_rfl) ?_
          simp only [List.take_succ_cons, List.take_zero, List.drop_succ_cons, List.drop_zero]
          repeat (go_big_quiet_step (fail))
          refine wpQuiet_nil ?_
          refine Cg.calm_call Cg.calm_mono_final 57 #[.agg #[.int .i64 x, .int .i64 y, .int .i64 z], .int .i64 0, .int .i64 15] rfl (fun w => ?_) (fun w he hF => ?_) ?_
          · go_simp
          · exact (Hnj.out w).mono fun e w'' ⟨he', hx⟩ => ⟨_, he', hx, fun _ => rfl, fun h => by cases h⟩
          rintro _ _ _ h _
          cases h rfl
          simp only [Act.put, List.setIfInBounds_toArray, List.set_cons_succ, List.set_cons_zero]
          refine Cg.calm_quiet Cg.calm_mono_final W2 (fun _ h => h) 12 (by kernel_rfl) ?_
          simp only [List.take_succ_cons, List.take_zero, List.drop_succ_cons, List.drop_zero]
          repeat (go_big_quiet_step (fail))
          refine wpQuiet_nil ?_
          refine Cg.calm_skip (by kernel_rfl) ?_
          simp only [Act.put, List.setIfInBounds_toArray, List.set_cons_succ, List.set_cons_zero]
          refine Cg.calm_quiet Cg.calm_mono_final W2 (fun _ h => h) 3 (by kernel_rfl) ?_
          simp only [List.take_succ_cons, List.take_zero, List.drop_succ_cons, List.drop_zero]
          repeat (go_big_quiet_step (fail))
          refine wpQuiet_nil ?_
          refine Cg.calm_nil fun w3 he3 _ => ?_
          have he3 : Ext W2 w3 := he3
          have H3 := Lib.hid (Hex.out.trans (Hxq.out.trans he3))
          clear he3 q0 q1 q2
          go_wp2
          go_roundw
          case rel => exact ⟨1, by omega, by go_num, H3.out, HA4, Lib.hid (fun i h => absurd h (by omega))⟩
          case measure => simp [intOf]; omega
        · obtain ⟨i, rfl⟩ : ∃ i, j = i + 1 := ⟨j - 1, by omega⟩
          obtain ⟨_, ee, y0, y1, y2⟩ := Hat.out i (by omega)
          cases ee
          have hxw := Hx0.out.trans Hex.out
          have v0 := fun w' he => y0 w' (hxw.trans he)
          have v1 := fun w' he => y1 w' (hxw.trans he)
          have v2 := fun w' he => y2 w' (hxw.trans he)
          have hoj := fun w' => Hor.out i (i + 1) w'
          have Hbad := Lib.hid (Hno2.out i hlt)
          have HA5 := Lib.hid (show ordC (ceA cs i) (ceA cs (i + 1)) < 0 → ∀ t, t + 1 < i + 1 + 1 → ordC (ceA cs t) (ceA cs (t + 1)) < 0 from fun h t ht => by
            rcases (by omega : t + 1 < i + 1 ∨ t = i) with h' | rfl
            · exact HA2.out t h'
            · exact h)
          obtain ⟨o, ho⟩ : ∃ o, ordC (ceA cs i) (ceA cs (i + 1)) = o := ⟨_, rfl⟩
          rw [ho] at hoj Hbad HA5
          obtain ⟨⟨x, y, z⟩, hq⟩ : ∃ q, ceA cs (i + 1) = q := ⟨_, rfl⟩
          obtain ⟨⟨px, py, pz⟩, hp⟩ : ∃ q, ceA cs i = q := ⟨_, rfl⟩
          rw [hq] at u0 u1 u2 hoj Hnj
          rw [hp] at v0 v1 v2 hoj
          simp only at u0 u1 u2 v0 v1 v2
          have Hoj := Lib.hid hoj
          have kq : Blk (wr.alloc (.cells #[.int .i64 x, .int .i64 y, .int .i64 z] 60)) wr.heap.size [.int .i64 x, .int .i64 y, .int .i64 z] := Blk.new _ _
          have q0 := kq.at_ 0 rfl
          have q1 := kq.at_ 1 rfl
          have q2 := kq.at_ 2 rfl
          have hxq : Ext wr (wr.alloc (.cells #[.int .i64 x, .int .i64 y, .int .i64 z] 60)) := (Ext.refl _).alloc _
          have p0 := fun w' he => v0 w' (hxq.trans he)
          have p1 := fun w' he => v1 w' (hxq.trans he)
          have p2 := fun w' he => v2 w' (hxq.trans he)
          have b0' := fun w' he => b0 w' (hxq.trans he)
          have hs1 : IntKind.i64.wrap (((i + 1 : Nat) : Int) - 1) = (i : Int) := by rw [IntKind.wrap_i64]; omega
          have hs2 : IntKind.i64.wrap ((i : Int) + 1 - 1) = (i : Int) := by rw [IntKind.wrap_i64]; omega
          have hin : (i : Int) < (n : Int) := by omega
          have hi0 : (0 : Int) < (i : Int) + 1 := by omega
          have Hxq := Lib.hid hxq
          clear kq hq hp ho hxq hoj Hat Hor Hno2 y0 y1 y2 v0 v1 v2 hxw
          by_cases hlo : o < 0
          · have HA6 := Lib.hid (HA5.out hlo)
            have ho2 : ¬ o ≥ 0 := by omega
            clear HA5 Hbad hlo
            go_wp2
            generalize (wr.alloc (.cells #[.int .i64 x, .int .i64 y, .int .i64 z] 60)) = W2 at *
            clear u0 u1 u2 b0
            refine Cg.wp_region_calm (p := Cg.extPre) (fr := (fun _ => false)) 18 (fun j _ v _ => (j = 1 → v = .bool true) ∧ (j = 14 → v = .int .i64 o)) (fun _ _ _ _ _ _ h => h) (by kernel_rfl) (by kernel_rfl) ?_
            simp only [List.take_succ_cons, List.take_zero, List.drop_succ_cons, List.drop_zero]
            refine Cg.calm_quiet Cg.calm_mono_final W2 (fun _ h => h) 1 (by kernel_rfl) ?_
            simp only [List.take_succ_cons, List.take_zero, List.drop_succ_cons, List.drop_zero]
            repeat (go_big_quiet_step (fail))
            refine wpQuiet_nil ?_
            refine Cg.calm_call Cg.calm_mono_final 57 #[.agg #[.int .i64 x, .int .i64 y, .int .i64 z], .int .i64 0, .int .i64 15] rfl (fun w => ?_) (fun w he hF => ?_) ?_
            · go_simp
            · exact (Hnj.out w).mono fun e w'' ⟨he', hx⟩ => ⟨_, he', hx, ⟨fun _ => rfl, fun h => (by cases h)⟩, fun h => by cases h⟩
            rintro _ _ _ h _
            cases h.1 rfl
            simp only [Act.put, List.setIfInBounds_toArray, List.set_cons_succ, List.set_cons_zero]
            refine Cg.calm_quiet Cg.calm_mono_final W2 (fun _ h => h) 12 (by kernel_rfl) ?_
            simp only [List.take_succ_cons, List.take_zero, List.drop_succ_cons, List.drop_zero]
            repeat (go_big_quiet_step (fail))
            refine wpQuiet_nil ?_
            refine Cg.calm_call Cg.calm_mono_final 105 #[.agg #[.int .i64 px, .int .i64 py, .int .i64 pz], .agg #[.int .i64 x, .int .i64 y, .int .i64 z]] rfl (fun w => ?_) (fun w he hF => ?_) ?_
            · go_simp
            · exact (Hoj.out w).mono fun e w'' ⟨he', hx⟩ => ⟨_, he', hx, ⟨fun h => (by cases h), fun _ => rfl⟩, fun h => by cases h⟩
            rintro _ _ _ h _
            cases h.2 rfl
            simp only [Act.put, List.setIfInBounds_toArray, List.set_cons_succ, List.set_cons_zero]
            refine Cg.calm_quiet Cg.calm_mono_final W2 (fun _ h => h) 3 (by kernel_rfl) ?_
            simp only [List.take_succ_cons, List.take_zero, List.drop_succ_cons, List.drop_zero]
            repeat (go_big_quiet_step (fail))
            refine wpQuiet_nil ?_
            refine Cg.calm_nil fun w3 he3 _ => ?_
            have he3 : Ext W2 w3 := he3
            have H3 := Lib.hid (Hex.out.trans (Hxq.out.trans he3))
            clear he3 q0 q1 q2 p0 p1 p2 b0' hs1 hs2
            go_wp2
            go_roundw
            case rel => exact ⟨i + 1 + 1, by omega, by go_num, H3.out, HA4, HA6⟩
            case measure => simp [intOf]; omega
          · have HB := Lib.hid (Hbad.out (by omega))
            have ho2 : o ≥ 0 := by omega
            clear HA5 Hbad hlo
            go_wp2
            generalize (wr.alloc (.cells #[.int .i64 x, .int .i64 y, .int .i64 z] 60)) = W2 at *
            clear u0 u1 u2 b0
            refine Cg.wp_region_calm (p := Cg.extPre) (fr := (fun _ => false)) 18 (fun j _ v _ => (j = 1 → v = .bool true) ∧ (j = 14 → v = .int .i64 o)) (fun _ _ _ _ _ _ h => h) (by kernel_rfl) (by kernel_rfl) ?_
            simp only [List.take_succ_cons, List.take_zero, List.drop_succ_cons, List.drop_zero]
            refine Cg.calm_quiet Cg.calm_mono_final W2 (fun _ h => h) 1 (by kernel_rfl) ?_
            simp only [List.take_succ_cons, List.take_zero, List.drop_succ_cons, List.drop_zero]
            repeat (go_big_quiet_step (fail))
            refine wpQuiet_nil ?_
            refine Cg.calm_call Cg.calm_mono_final 57 #[.agg #[.int .i64 x, .int .i64 y, .int .i64 z], .int .i64 0, .int .i64 15] rfl (fun w => ?_) (fun w he hF => ?_) ?_
            · go_simp
            · exact (Hnj.out w).mono fun e w'' ⟨he', hx⟩ => ⟨_, he', hx, ⟨fun _ => rfl, fun h => (by cases h)⟩, fun h => by cases h⟩
            rintro _ _ _ h _
            cases h.1 rfl
            simp only [Act.put, List.setIfInBounds_toArray, List.set_cons_succ, List.set_cons_zero]
            refine Cg.calm_quiet Cg.calm_mono_final W2 (fun _ h => h) 12 (by kernel_rfl) ?_
            simp only [List.take_succ_cons, List.take_zero, List.drop_succ_cons, List.drop_zero]
            repeat (go_big_quiet_step (fail))
            refine wpQuiet_nil ?_
            refine Cg.calm_call Cg.calm_mono_final 105 #[.agg #[.int .i64 px, .int .i64 py, .int .i64 pz], .agg #[.int .i64 x, .int .i64 y, .int .i64 z]] rfl (fun w => ?_) (fun w he hF => ?_) ?_
            · go_simp
            · exact (Hoj.out w).mono fun e w'' ⟨he', hx⟩ => ⟨_, he', hx, ⟨fun h => (by cases h), fun _ => rfl⟩, fun h => by cases h⟩
            rintro _ _ _ h _
            cases h.2 rfl
            simp only [Act.put, List.setIfInBounds_toArray, List.set_cons_succ, List.set_cons_zero]
            refine Cg.calm_quiet Cg.calm_mono_final W2 (fun _ h => h) 3 (by kernel_rfl) ?_
            simp only [List.take_succ_cons, List.take_zero, List.drop_succ_cons, List.drop_zero]
            repeat (go_big_quiet_step (fail))
            refine wpQuiet_nil ?_
            refine Cg.calm_nil fun w3 he3 _ => ?_
            have he3 : Ext W2 w3 := he3
            have H3 := Lib.hid (Hx0.out.trans (Hex.out.trans (Hxq.out.trans he3)))
            clear he3 q0 q1 q2 p0 p1 p2 b0' hs1 hs2
            go_wp2
            go_ret
            exact tells_no (by decide) HB.out H3.out
      · rw [show nearB (ceA cs j) 0 15 = false from decide_eq_false hnear] at hnj
        have HB := Lib.hid (Hbad.out hnear)
        have Hnj := Lib.hid hnj
        clear hnear HA3 hnj Hbad Hat Hor Hno2 HA1 HA2
        obtain ⟨⟨x, y, z⟩, hq⟩ : ∃ q, ceA cs j = q := ⟨_, rfl⟩
        rw [hq] at u0 u1 u2 Hnj
        simp only at u0 u1 u2
        have kq : Blk (wr.alloc (.cells #[.int .i64 x, .int .i64 y, .int .i64 z] 60)) wr.heap.size [.int .i64 x, .int .i64 y, .int .i64 z] := Blk.new _ _
        have q0 := kq.at_ 0 rfl
        have q1 := kq.at_ 1 rfl
        have q2 := kq.at_ 2 rfl
        have Hxq := Lib.hid (show Ext wr (wr.alloc (.cells #[.int .i64 x, .int .i64 y, .int .i64 z] 60)) from (Ext.refl _).alloc _)
        clear kq hq
        go_wp2
        generalize (wr.alloc (.cells #[.int .i64 x, .int .i64 y, .int .i64 z] 60)) = W2 at *
        clear u0 u1 u2 b0
        refine Cg.wp_region_calm (p := Cg.extPre) (fr := (fun _ => false)) 18 (fun j _ v _ => (j = 1 → v = .bool false)) (fun _ _ _ _ _ _ h => h) (by kernel_rfl) (by kernel_rfl) ?_
        simp only [List.take_succ_cons, List.take_zero, List.drop_succ_cons, List.drop_zero]
        refine Cg.calm_quiet Cg.calm_mono_final W2 (fun _ h => h) 1 (by kernel_rfl) ?_
        simp only [List.take_succ_cons, List.take_zero, List.drop_succ_cons, List.drop_zero]
        repeat (go_big_quiet_step (fail))
        refine wpQuiet_nil ?_
        refine Cg.calm_call Cg.calm_mono_final 57 #[.agg #[.int .i64 x, .int .i64 y, .int .i64 z], .int .i64 0, .int .i64 15] rfl (fun w => ?_) (fun w he hF => ?_) ?_
        · go_simp
        · exact (Hnj.out w).mono fun e w'' ⟨he', hx⟩ => ⟨_, he', hx, fun _ => rfl, fun h => by cases h⟩
        rintro _ _ _ h _
        cases h rfl
        simp only [Act.put, List.setIfInBounds_toArray, List.set_cons_succ, List.set_cons_zero]
        refine Cg.calm_quiet Cg.calm_mono_final W2 (fun _ h => h) 12 (by kernel_rfl) ?_
        simp only [List.take_succ_cons, List.take_zero, List.drop_succ_cons, List.drop_zero]
        repeat (go_big_quiet_step (fail))
        refine wpQuiet_nil ?_
        refine Cg.calm_skip (by kernel_rfl) ?_
        simp only [Act.put, List.setIfInBounds_toArray, List.set_cons_succ, List.set_cons_zero]
        refine Cg.calm_quiet Cg.calm_mono_final W2 (fun _ h => h) 3 (by kernel_rfl) ?_
        simp only [List.take_succ_cons, List.take_zero, List.drop_succ_cons, List.drop_zero]
        repeat (go_big_quiet_step (fail))
        refine wpQuiet_nil ?_
        refine Cg.calm_nil fun w3 he3 _ => ?_
        have he3 : Ext W2 w3 := he3
        have H3 := Lib.hid (Hx0.out.trans (Hex.out.trans (Hxq.out.trans he3)))
        clear he3 q0 q1 q2
        go_wp2
        go_ret
        exact tells_no (by decide) HB.out H3.out
    · obtain rfl : n = j := by omega
      have b1 := fun w' he => B1.out w' (hex.trans he)
      have hyes := Hyes.out HA1.out HA2.out
      have Hyes2 := Lib.hid hyes
      have Hpl2 := Lib.hid (Hpl.out HA1.out)
      clear Hyes hyes Hpl Hno Hno2 Hat Hnr Hor HA1 HA2
      go_wp2
      have Hex0 := Lib.hid hex
      clear b1 hex
      go_loopw [63] (fun i wr => ∃ j : Nat, j ≤ m ∧ i = .int .i64 j ∧ Ext W wr ∧ Hid (∀ i, i < j → knP cs (knA ks i)) ∧ Hid (∀ i, i + 1 < j → ordK (knA ks i) (knA ks (i + 1)) < 0)) (fun i _ => m - (intOf i).toNat)
      case atStart => exact ⟨0, by omega, rfl, Hex0.out, Lib.hid (fun i h => absurd h (by omega)), Lib.hid (fun i h => absurd h (by omega))⟩
      case round =>
        clear Hex0
        obtain ⟨j, hj, rfl, hex, HA1, HA2⟩ := hrel
        by_cases hlt : j < m
        · have hji : (j : Int) < (m : Int) := by omega
          obtain ⟨ad, rfl, x0, x1, x2, x3, x4⟩ := Hkt.out j hlt
          have hxw := Hx0.out.trans hex
          have u0 := fun w' he => x0 w' (hxw.trans he)
          have u1 := fun w' he => x1 w' (hxw.trans he)
          have u2 := fun w' he => x2 w' (hxw.trans he)
          have u3 := fun w' he => x3 w' (hxw.trans he)
          have u4 := fun w' he => x4 w' (hxw.trans he)
          have Hex := Lib.hid hex
          have hd0 := H8.out j hlt
          have Hbad := Lib.hid (Hno3.out j hlt)
          have HA3 := Lib.hid (show knP cs (knA ks j) → ∀ i, i < j + 1 → knP cs (knA ks i) from fun h i hi => by
            rcases (by omega : i < j ∨ i = j) with h' | rfl
            · exact HA1.out i h'
            · exact h)
          have hw1 : IntKind.i64.wrap ((j : Int) + 1) = ((j + 1 : Nat) : Int) := by rw [IntKind.wrap_i64]; omega
          obtain ⟨kn, hkn⟩ : ∃ kn, knA ks j = kn := ⟨_, rfl⟩
          have Hkn := Lib.hid hkn
          rw [hkn] at u0 u1 u2 u3 u4 Hbad HA3 hd0
          obtain ⟨⟨x, y, z⟩, dir, srt⟩ := kn
          simp only at u0 u1 u2 u3 u4 hd0
          obtain ⟨dn, rfl⟩ : ∃ dn : Nat, dir = dn := ⟨dir.toNat, by omega⟩
          have kq : Blk (wr.alloc (.cells #[.int .i64 x, .int .i64 y, .int .i64 z, .int .u8 dn, .int .u8 srt] 144)) wr.heap.size [.int .i64 x, .int .i64 y, .int .i64 z, .int .u8 dn, .int .u8 srt] := Blk.new _ _
          have q0 := kq.at_ 0 rfl
          have q1 := kq.at_ 1 rfl
          have q2 := kq.at_ 2 rfl
          have q3 := kq.at_ 3 rfl
          have q4 := kq.at_ 4 rfl
          have hxq : Ext wr (wr.alloc (.cells #[.int .i64 x, .int .i64 y, .int .i64 z, .int .u8 dn, .int .u8 srt] 144)) := (Ext.refl _).alloc _
          have hxx := hex.trans hxq
          have b0 := fun w' he => B0.out w' (hxx.trans he)
          have b1 := fun w' he => B1.out w' (hxx.trans he)
          have Hxq := Lib.hid hxq
          have hxz := Hx0.out.trans hxx
          have Hxz := Lib.hid hxz
          clear kq x0 x1 x2 x3 x4 hxw hxq hxx hxz hex hkn Hno3 H8
          go_wp2
          generalize (wr.alloc (.cells #[.int .i64 x, .int .i64 y, .int .i64 z, .int .u8 dn, .int .u8 srt] 144)) = W2 at *
          clear u0 u1 u2 u3 u4
          by_cases c1 : (dn : Int) > 5
          · have HB := Lib.hid (Hbad.out (fun h => by have := h.1.1; simp only at this; omega))
            clear Hbad HA3 HA1 HA2 Hkt Hko Hcn Hpl2 Hno4 Hyes2
            refine Cg.wp_region_calm (p := Cg.extPre) (fr := (fun _ => false)) 33 (fun j _ v _ => True) (fun _ _ _ _ _ _ h => h) (by kernel_rfl) (by kernel_rfl) ?_
            simp only [List.take_succ_cons, List.take_zero, List.drop_succ_cons, List.drop_zero]
            refine Cg.calm_quiet Cg.calm_mono_final W2 (fun _ h => h) 18 (by kernel_rfl) ?_
            simp only [List.take_succ_cons, List.take_zero, List.drop_succ_cons, List.drop_zero]
            repeat (go_big_quiet_step (fail))
            refine wpQuiet_nil ?_
            refine Cg.calm_skip (by kernel_rfl) ?_
            simp only [Act.put, List.setIfInBounds_toArray, List.set_cons_succ, List.set_cons_zero]
            refine Cg.calm_quiet Cg.calm_mono_final W2 (fun _ h => h) 10 (by kernel_rfl) ?_
            simp only [List.take_succ_cons, List.take_zero, List.drop_succ_cons, List.drop_zero]
            repeat (go_big_quiet_step (fail))
            refine wpQuiet_nil ?_
            refine Cg.calm_skip (by kernel_rfl) ?_
            simp only [Act.put, List.setIfInBounds_toArray, List.set_cons_succ, List.set_cons_zero]
            refine Cg.calm_skip (by kernel_rfl) ?_
            simp only [Act.put, List.setIfInBounds_toArray, List.set_cons_succ, List.set_cons_zero]
            refine Cg.calm_skip (by kernel_rfl) ?_
            simp only [Act.put, List.setIfInBounds_toArray, List.set_cons_succ, List.set_cons_zero]
            refine Cg.calm_quiet Cg.calm_mono_final W2 (fun _ h => h) 1 (by kernel_rfl) ?_
            simp only [List.take_succ_cons, List.take_zero, List.drop_succ_cons, List.drop_zero]
            repeat (go_big_quiet_step (fail))
            refine wpQuiet_nil ?_
            refine Cg.calm_nil fun w3 he3 _ => ?_
            have he3 : Ext W2 w3 := he3
            have H3 := Lib.hid (Hxz.out.trans he3)
            clear he3 q0 q1 q2 q3 q4 b0 b1
            go_wp2
            go_ret
            exact tells_no (by decide) HB.out H3.out
          by_cases c2 : srt < 1
          · have HB := Lib.hid (Hbad.out (fun h => by have := h.1.2.1; simp only at this; omega))
            clear Hbad HA3 HA1 HA2 Hkt Hko Hcn Hpl2 Hno4 Hyes2
            refine Cg.wp_region_calm (p := Cg.extPre) (fr := (fun _ => false)) 33 (fun j _ v _ => True) (fun _ _ _ _ _ _ h => h) (by kernel_rfl) (by kernel_rfl) ?_
            simp only [List.take_succ_cons, List.take_zero, List.drop_succ_cons, List.drop_zero]
            refine Cg.calm_quiet Cg.calm_mono_final W2 (fun _ h => h) 18 (by kernel_rfl) ?_
            simp only [List.take_succ_cons, List.take_zero, List.drop_succ_cons, List.drop_zero]
            repeat (go_big_quiet_step (fail))
            refine wpQuiet_nil ?_
            refine Cg.calm_skip (by kernel_rfl) ?_
            simp only [Act.put, List.setIfInBounds_toArray, List.set_cons_succ, List.set_cons_zero]
            refine Cg.calm_quiet Cg.calm_mono_final W2 (fun _ h => h) 10 (by kernel_rfl) ?_
            simp only [List.take_succ_cons, List.take_zero, List.drop_succ_cons, List.drop_zero]
            repeat (go_big_quiet_step (fail))
            refine wpQuiet_nil ?_
            refine Cg.calm_skip (by kernel_rfl) ?_
            simp only [Act.put, List.setIfInBounds_toArray, List.set_cons_succ, List.set_cons_zero]
            refine Cg.calm_skip (by kernel_rfl) ?_
            simp only [Act.put, List.setIfInBounds_toArray, List.set_cons_succ, List.set_cons_zero]
            refine Cg.calm_skip (by kernel_rfl) ?_
            simp only [Act.put, List.setIfInBounds_toArray, List.set_cons_succ, List.set_cons_zero]
            refine Cg.calm_quiet Cg.calm_mono_final W2 (fun _ h => h) 1 (by kernel_rfl) ?_
            simp only [List.take_succ_cons, List.take_zero, List.drop_succ_cons, List.drop_zero]
            repeat (go_big_quiet_step (fail))
            refine wpQuiet_nil ?_
            refine Cg.calm_nil fun w3 he3 _ => ?_
            have he3 : Ext W2 w3 := he3
            have H3 := Lib.hid (Hxz.out.trans he3)
            clear he3 q0 q1 q2 q3 q4 b0 b1
            go_wp2
            go_ret
            exact tells_no (by decide) HB.out H3.out
          by_cases c3 : srt > 6
          · have HB := Lib.hid (Hbad.out (fun h => by have := h.1.2.2; simp only at this; omega))
            clear Hbad HA3 HA1 HA2 Hkt Hko Hcn Hpl2 Hno4 Hyes2
            refine Cg.wp_region_calm (p := Cg.extPre) (fr := (fun _ => false)) 33 (fun j _ v _ => True) (fun _ _ _ _ _ _ h => h) (by kernel_rfl) (by kernel_rfl) ?_
            simp only [List.take_succ_cons, List.take_zero, List.drop_succ_cons, List.drop_zero]
            refine Cg.calm_quiet Cg.calm_mono_final W2 (fun _ h => h) 18 (by kernel_rfl) ?_
            simp only [List.take_succ_cons, List.take_zero, List.drop_succ_cons, List.drop_zero]
            repeat (go_big_quiet_step (fail))
            refine wpQuiet_nil ?_
            refine Cg.calm_skip (by kernel_rfl) ?_
            simp only [Act.put, List.setIfInBounds_toArray, List.set_cons_succ, List.set_cons_zero]
            refine Cg.calm_quiet Cg.calm_mono_final W2 (fun _ h => h) 10 (by kernel_rfl) ?_
            simp only [List.take_succ_cons, List.take_zero, List.drop_succ_cons, List.drop_zero]
            repeat (go_big_quiet_step (fail))
            refine wpQuiet_nil ?_
            refine Cg.calm_skip (by kernel_rfl) ?_
            simp only [Act.put, List.setIfInBounds_toArray, List.set_cons_succ, List.set_cons_zero]
            refine Cg.calm_skip (by kernel_rfl) ?_
            simp only [Act.put, List.setIfInBounds_toArray, List.set_cons_succ, List.set_cons_zero]
            refine Cg.calm_skip (by kernel_rfl) ?_
            simp only [Act.put, List.setIfInBounds_toArray, List.set_cons_succ, List.set_cons_zero]
            refine Cg.calm_quiet Cg.calm_mono_final W2 (fun _ h => h) 1 (by kernel_rfl) ?_
            simp only [List.take_succ_cons, List.take_zero, List.drop_succ_cons, List.drop_zero]
            repeat (go_big_quiet_step (fail))
            refine wpQuiet_nil ?_
            refine Cg.calm_nil fun w3 he3 _ => ?_
            have he3 : Ext W2 w3 := he3
            have H3 := Lib.hid (Hxz.out.trans he3)
            clear he3 q0 q1 q2 q3 q4 b0 b1
            go_wp2
            go_ret
            exact tells_no (by decide) HB.out H3.out
          have hc1 := fun w' (he : Ext W2 w') => Hcn.out ⟨x, y, z⟩ w' (Hxz.out.trans he)
          by_cases c4 : ¬ (⟨x, y, z⟩ : Ce) ∈ cs
          · rw [decide_eq_false c4] at hc1
            have HB := Lib.hid (Hbad.out (fun h => c4 h.2.1))
            have Hc1 := Lib.hid hc1
            clear Hbad HA3 HA1 HA2 Hkt Hko Hcn Hpl2 Hno4 Hyes2 c4 hc1
            refine Cg.wp_region_calm (p := Cg.extPre) (fr := (fun _ => false)) 33 (fun j _ v _ => (j = 18 → v = .bool false)) (fun _ _ _ _ _ _ h => h) (by kernel_rfl) (by kernel_rfl) ?_
            simp only [List.take_succ_cons, List.take_zero, List.drop_succ_cons, List.drop_zero]
            refine Cg.calm_quiet Cg.calm_mono_final W2 (fun _ h => h) 18 (by kernel_rfl) ?_
            simp only [List.take_succ_cons, List.take_zero, List.drop_succ_cons, List.drop_zero]
            repeat (go_big_quiet_step (fail))
            refine wpQuiet_nil ?_
            refine Cg.calm_call Cg.calm_mono_final 145 #[.slice B n b, .agg #[.int .i64 x, .int .i64 y, .int .i64 z]] rfl (fun w => ?_) (fun w he hF => ?_) ?_
            · go_simp
            · exact (Hc1.out w he).mono fun e w'' ⟨he', hx⟩ => ⟨_, he', hx, fun _ => rfl, fun h => by cases h⟩
            rintro _ _ _ h _
            cases h rfl
            simp only [Act.put, List.setIfInBounds_toArray, List.set_cons_succ, List.set_cons_zero]
            refine Cg.calm_quiet Cg.calm_mono_final W2 (fun _ h => h) 10 (by kernel_rfl) ?_
            simp only [List.take_succ_cons, List.take_zero, List.drop_succ_cons, List.drop_zero]
            repeat (go_big_quiet_step (fail))
            refine wpQuiet_nil ?_
            refine Cg.calm_skip (by kernel_rfl) ?_
            simp only [Act.put, List.setIfInBounds_toArray, List.set_cons_succ, List.set_cons_zero]
            refine Cg.calm_skip (by kernel_rfl) ?_
            simp only [Act.put, List.setIfInBounds_toArray, List.set_cons_succ, List.set_cons_zero]
            refine Cg.calm_skip (by kernel_rfl) ?_
            simp only [Act.put, List.setIfInBounds_toArray, List.set_cons_succ, List.set_cons_zero]
            refine Cg.calm_quiet Cg.calm_mono_final W2 (fun _ h => h) 1 (by kernel_rfl) ?_
            simp only [List.take_succ_cons, List.take_zero, List.drop_succ_cons, List.drop_zero]
            repeat (go_big_quiet_step (fail))
            refine wpQuiet_nil ?_
            refine Cg.calm_nil fun w3 he3 _ => ?_
            have he3 : Ext W2 w3 := he3
            have H3 := Lib.hid (Hxz.out.trans he3)
            clear he3 q0 q1 q2 q3 q4 b0 b1
            go_wp2
            go_ret
            exact tells_no (by decide) HB.out H3.out
          have c4 := Classical.not_not.1 c4
          rw [decide_eq_true c4] at hc1
          have hdn : dn < 6 := by omega
          have hst := fun w' => step_any dn hdn w'
          have hp2 := fun w' => Hpl2.out ⟨x, y, z⟩ c4 dn w'
          have hc2 := fun w' (he : Ext W2 w') => Hcn.out (plusC ⟨x, y, z⟩ (stepC dn)) w' (Hxz.out.trans he)
          have hok : plusC ⟨x, y, z⟩ (stepC dn) ∉ cs → knP cs ⟨⟨x, y, z⟩, (dn : Int), srt⟩ := fun h => ⟨⟨by simp only; omega, by simp only; omega, by simp only; omega⟩, c4, h⟩
          have hnk : plusC ⟨x, y, z⟩ (stepC dn) ∈ cs → ¬ knP cs ⟨⟨x, y, z⟩, (dn : Int), srt⟩ := fun h hk => hk.2.2 h
          have Hok := Lib.hid hok
          have Hnk := Lib.hid hnk
          have hcv : IntKind.i64.wrap (dn : Int) = (dn : Int) := by rw [IntKind.wrap_i64]; omega
          clear hok hnk c4
          obtain ⟨⟨sx, sy, sz⟩, hs⟩ : ∃ s, stepC dn = s := ⟨_, rfl⟩
          rw [hs] at hst hp2 hc2 Hok Hnk
          obtain ⟨⟨rx, ry, rz⟩, hr⟩ : ∃ s, plusC ⟨x, y, z⟩ ⟨sx, sy, sz⟩ = s := ⟨_, rfl⟩
          rw [hr] at hp2 hc2 Hok Hnk
          clear hs hr
          have Hst := Lib.hid hst
          have Hp2 := Lib.hid hp2
          have Hc1 := Lib.hid hc1
          by_cases c5 : (⟨rx, ry, rz⟩ : Ce) ∈ cs
          · rw [decide_eq_true c5] at hc2
            have HB := Lib.hid (Hbad.out (Hnk.out c5))
            have Hc2 := Lib.hid hc2
            clear Hbad HA3 HA1 HA2 Hkt Hko Hcn Hpl2 Hno4 Hyes2 c5 hc1 hc2 hst hp2 Hok Hnk
            refine Cg.wp_region_calm (p := Cg.extPre) (fr := (fun _ => false)) 33 (fun j _ v _ => (j = 18 → v = .bool true) ∧ (j = 29 → v = .agg #[.int .i64 sx, .int .i64 sy, .int .i64 sz]) ∧ (j = 30 → v = .agg #[.int .i64 rx, .int .i64 ry, .int .i64 rz]) ∧ (j = 31 → v = .bool true)) (fun _ _ _ _ _ _ h => h) (by kernel_rfl) (by kernel_rfl) ?_
            simp only [List.take_succ_cons, List.take_zero, List.drop_succ_cons, List.drop_zero]
            refine Cg.calm_quiet Cg.calm_mono_final W2 (fun _ h => h) 18 (by kernel_rfl) ?_
            simp only [List.take_succ_cons, List.take_zero, List.drop_succ_cons, List.drop_zero]
            repeat (go_big_quiet_step (fail))
            refine wpQuiet_nil ?_
            refine Cg.calm_call Cg.calm_mono_final 145 #[.slice B n b, .agg #[.int .i64 x, .int .i64 y, .int .i64 z]] rfl (fun w => ?_) (fun w he hF => ?_) ?_
            · go_simp
            · exact (Hc1.out w he).mono fun e w'' ⟨he', hx⟩ => ⟨_, he', hx, ⟨fun _ => rfl, fun h => (by cases h), fun h => (by cases h), fun h => (by cases h)⟩, fun h => by cases h⟩
            rintro _ _ _ h _
            cases h.1 rfl
            simp only [Act.put, List.setIfInBounds_toArray, List.set_cons_succ, List.set_cons_zero]
            refine Cg.calm_quiet Cg.calm_mono_final W2 (fun _ h => h) 10 (by kernel_rfl) ?_
            simp only [List.take_succ_cons, List.take_zero, List.drop_succ_cons, List.drop_zero]
            repeat (go_big_quiet_step (fail))
            refine wpQuiet_nil ?_
            refine Cg.calm_call Cg.calm_mono_final 140 #[.int .i64 dn] rfl (fun w => ?_) (fun w he hF => ?_) ?_
            · go_simp
            · exact (Hst.out w).mono fun e w'' ⟨he', hx⟩ => ⟨_, he', hx, ⟨fun h => (by cases h), fun _ => rfl, fun h => (by cases h), fun h => (by cases h)⟩, fun h => by cases h⟩
            rintro _ _ _ h _
            cases h.2.1 rfl
            simp only [Act.put, List.setIfInBounds_toArray, List.set_cons_succ, List.set_cons_zero]
            refine Cg.calm_call Cg.calm_mono_final 103 #[.agg #[.int .i64 x, .int .i64 y, .int .i64 z], .agg #[.int .i64 sx, .int .i64 sy, .int .i64 sz]] rfl (fun w => ?_) (fun w he hF => ?_) ?_
            · go_simp
            · exact (Hp2.out w).mono fun e w'' ⟨he', hx⟩ => ⟨_, he', hx, ⟨fun h => (by cases h), fun h => (by cases h), fun _ => rfl, fun h => (by cases h)⟩, fun h => by cases h⟩
            rintro _ _ _ h _
            cases h.2.2.1 rfl
            simp only [Act.put, List.setIfInBounds_toArray, List.set_cons_succ, List.set_cons_zero]
            refine Cg.calm_call Cg.calm_mono_final 145 #[.slice B n b, .agg #[.int .i64 rx, .int .i64 ry, .int .i64 rz]] rfl (fun w => ?_) (fun w he hF => ?_) ?_
            · go_simp
            · exact (Hc2.out w he).mono fun e w'' ⟨he', hx⟩ => ⟨_, he', hx, ⟨fun h => (by cases h), fun h => (by cases h), fun h => (by cases h), fun _ => rfl⟩, fun h => by cases h⟩
            rintro _ _ _ h _
            cases h.2.2.2 rfl
            simp only [Act.put, List.setIfInBounds_toArray, List.set_cons_succ, List.set_cons_zero]
            refine Cg.calm_quiet Cg.calm_mono_final W2 (fun _ h => h) 1 (by kernel_rfl) ?_
            simp only [List.take_succ_cons, List.take_zero, List.drop_succ_cons, List.drop_zero]
            repeat (go_big_quiet_step (fail))
            refine wpQuiet_nil ?_
            refine Cg.calm_nil fun w3 he3 _ => ?_
            have he3 : Ext W2 w3 := he3
            have H3 := Lib.hid (Hxz.out.trans he3)
            clear he3 q0 q1 q2 q3 q4 b0 b1
            go_wp2
            go_ret
            exact tells_no (by decide) HB.out H3.out
          rw [decide_eq_false c5] at hc2
          have HA4 := Lib.hid (HA3.out (Hok.out c5))
          have Hc2 := Lib.hid hc2
          clear Hbad HA3 HA1 Hcn c5 hc1 hc2 hst hp2 Hok Hnk
          refine Cg.wp_region_calm (p := Cg.extPre) (fr := (fun _ => false)) 33 (fun j _ v _ => (j = 18 → v = .bool true) ∧ (j = 29 → v = .agg #[.int .i64 sx, .int .i64 sy, .int .i64 sz]) ∧ (j = 30 → v = .agg #[.int .i64 rx, .int .i64 ry, .int .i64 rz]) ∧ (j = 31 → v = .bool false)) (fun _ _ _ _ _ _ h => h) (by kernel_rfl) (by kernel_rfl) ?_
          simp only [List.take_succ_cons, List.take_zero, List.drop_succ_cons, List.drop_zero]
          refine Cg.calm_quiet Cg.calm_mono_final W2 (fun _ h => h) 18 (by kernel_rfl) ?_
          simp only [List.take_succ_cons, List.take_zero, List.drop_succ_cons, List.drop_zero]
          repeat (go_big_quiet_step (fail))
          refine wpQuiet_nil ?_
          refine Cg.calm_call Cg.calm_mono_final 145 #[.slice B n b, .agg #[.int .i64 x, .int .i64 y, .int .i64 z]] rfl (fun w => ?_) (fun w he hF => ?_) ?_
          · go_simp
          · exact (Hc1.out w he).mono fun e w'' ⟨he', hx⟩ => ⟨_, he', hx, ⟨fun _ => rfl, fun h => (by cases h), fun h => (by cases h), fun h => (by cases h)⟩, fun h => by cases h⟩
          rintro _ _ _ h _
          cases h.1 rfl
          simp only [Act.put, List.setIfInBounds_toArray, List.set_cons_succ, List.set_cons_zero]
          refine Cg.calm_quiet Cg.calm_mono_final W2 (fun _ h => h) 10 (by kernel_rfl) ?_
          simp only [List.take_succ_cons, List.take_zero, List.drop_succ_cons, List.drop_zero]
          repeat (go_big_quiet_step (fail))
          refine wpQuiet_nil ?_
          refine Cg.calm_call Cg.calm_mono_final 140 #[.int .i64 dn] rfl (fun w => ?_) (fun w he hF => ?_) ?_
          · go_simp
          · exact (Hst.out w).mono fun e w'' ⟨he', hx⟩ => ⟨_, he', hx, ⟨fun h => (by cases h), fun _ => rfl, fun h => (by cases h), fun h => (by cases h)⟩, fun h => by cases h⟩
          rintro _ _ _ h _
          cases h.2.1 rfl
          simp only [Act.put, List.setIfInBounds_toArray, List.set_cons_succ, List.set_cons_zero]
          refine Cg.calm_call Cg.calm_mono_final 103 #[.agg #[.int .i64 x, .int .i64 y, .int .i64 z], .agg #[.int .i64 sx, .int .i64 sy, .int .i64 sz]] rfl (fun w => ?_) (fun w he hF => ?_) ?_
          · go_simp
          · exact (Hp2.out w).mono fun e w'' ⟨he', hx⟩ => ⟨_, he', hx, ⟨fun h => (by cases h), fun h => (by cases h), fun _ => rfl, fun h => (by cases h)⟩, fun h => by cases h⟩
          rintro _ _ _ h _
          cases h.2.2.1 rfl
          simp only [Act.put, List.setIfInBounds_toArray, List.set_cons_succ, List.set_cons_zero]
          refine Cg.calm_call Cg.calm_mono_final 145 #[.slice B n b, .agg #[.int .i64 rx, .int .i64 ry, .int .i64 rz]] rfl (fun w => ?_) (fun w he hF => ?_) ?_
          · go_simp
          · exact (Hc2.out w he).mono fun e w'' ⟨he', hx⟩ => ⟨_, he', hx, ⟨fun h => (by cases h), fun h => (by cases h), fun h => (by cases h), fun _ => rfl⟩, fun h => by cases h⟩
          rintro _ _ _ h _
          cases h.2.2.2 rfl
          simp only [Act.put, List.setIfInBounds_toArray, List.set_cons_succ, List.set_cons_zero]
          refine Cg.calm_quiet Cg.calm_mono_final W2 (fun _ h => h) 1 (by kernel_rfl) ?_
          simp only [List.take_succ_cons, List.take_zero, List.drop_succ_cons, List.drop_zero]
          repeat (go_big_quiet_step (fail))
          refine wpQuiet_nil ?_
          refine Cg.calm_nil fun W3 he3 _ => ?_
          have he3 : Ext W2 W3 := he3
          have H3 := Lib.hid he3
          have r0 := fun w' he => q0 w' (he3.trans he)
          have r1 := fun w' he => q1 w' (he3.trans he)
          have r2 := fun w' he => q2 w' (he3.trans he)
          have r3 := fun w' he => q3 w' (he3.trans he)
          have d1 := fun w' he => b1 w' (he3.trans he)
          clear he3 q0 q1 q2 q3 q4 b0 b1 Hc1 Hc2 Hst Hp2 c1 c2 c3
          by_cases hz : j = 0
          · subst hz
            clear Hkt Hko Hno4
            go_wp2
            refine Cg.wp_region_calm (p := Cg.extPre) (fr := (fun _ => false)) 27 (fun j _ v _ => True) (fun _ _ _ _ _ _ h => h) (by kernel_rfl) (by kernel_rfl) ?_
            simp only [List.take_succ_cons, List.take_zero, List.drop_succ_cons, List.drop_zero]
            refine Cg.calm_quiet Cg.calm_mono_final W3 (fun _ h => h) 12 (by kernel_rfl) ?_
            simp only [List.take_succ_cons, List.take_zero, List.drop_succ_cons, List.drop_zero]
            repeat (go_big_quiet_step (fail))
            refine wpQuiet_nil ?_
            refine Cg.calm_skip (by kernel_rfl) ?_
            simp only [Act.put, List.setIfInBounds_toArray, List.set_cons_succ, List.set_cons_zero]
            refine Cg.calm_quiet Cg.calm_mono_final W3 (fun _ h => h) 9 (by kernel_rfl) ?_
            simp only [List.take_succ_cons, List.take_zero, List.drop_succ_cons, List.drop_zero]
            repeat (go_big_quiet_step (fail))
            refine wpQuiet_nil ?_
            refine Cg.calm_skip (by kernel_rfl) ?_
            simp only [Act.put, List.setIfInBounds_toArray, List.set_cons_succ, List.set_cons_zero]
            refine Cg.calm_skip (by kernel_rfl) ?_
            simp only [Act.put, List.setIfInBounds_toArray, List.set_cons_succ, List.set_cons_zero]
            refine Cg.calm_skip (by kernel_rfl) ?_
            simp only [Act.put, List.setIfInBounds_toArray, List.set_cons_succ, List.set_cons_zero]
            refine Cg.calm_quiet Cg.calm_mono_final W3 (fun _ h => h) 2 (by kernel_rfl) ?_
            simp only [List.take_succ_cons, List.take_zero, List.drop_succ_cons, List.drop_zero]
            repeat (go_big_quiet_step (fail))
            refine wpQuiet_nil ?_
            refine Cg.calm_nil fun w4 he4 _ => ?_
            have he4 : Ext W3 w4 := he4
            have H4 := Lib.hid ((Hex.out.trans (Hxq.out.trans H3.out)).trans he4)
            clear he4 r0 r1 r2 r3 d1
            go_wp2
            go_roundw
            case rel => exact ⟨1, by omega, by go_num, H4.out, HA4, Lib.hid (fun i h => absurd h (by omega))⟩
            case measure => simp [intOf]; omega
          · obtain ⟨i, rfl⟩ : ∃ i, j = i + 1 := ⟨j - 1, by omega⟩
            obtain ⟨_, ee, y0, y1, y2, y3, _⟩ := Hkt.out i (by omega)
            cases ee
            have hxw := Hxz.out.trans H3.out
            have v0 := fun w' he => y0 w' (hxw.trans he)
            have v1 := fun w' he => y1 w' (hxw.trans he)
            have v2 := fun w' he => y2 w' (hxw.trans he)
            have v3 := fun w' he => y3 w' (hxw.trans he)
            have hoj := fun w' => Hko.out i (i + 1) w'
            have Hbad := Lib.hid (Hno4.out i hlt)
            have HA5 := Lib.hid (show ordK (knA ks i) (knA ks (i + 1)) < 0 → ∀ t, t + 1 < i + 1 + 1 → ordK (knA ks t) (knA ks (t + 1)) < 0 from fun h t ht => by
              rcases (by omega : t + 1 < i + 1 ∨ t = i) with h' | rfl
              · exact HA2.out t h'
              · exact h)
            have hdef : ordK (knA ks i) (knA ks (i + 1)) = (([ordC (knA ks i).at_ (knA ks (i + 1)).at_, cmpI (knA ks i).dir (knA ks (i + 1)).dir] : List Int).find? fun x => x != 0).getD 0 := rfl
            have h8 := fun w' => cmp8_any (knA ks i).dir (knA ks (i + 1)).dir w'
            rw [Hkn.out] at hoj hdef Hbad HA5 h8
            obtain ⟨kp, hkp⟩ : ∃ kp, knA ks i = kp := ⟨_, rfl⟩
            rw [hkp] at hoj hdef Hbad HA5 h8 v0 v1 v2 v3
            obtain ⟨⟨px, py, pz⟩, pd, ps⟩ := kp
            simp only at hoj hdef h8 v0 v1 v2 v3
            obtain ⟨oc, hoc⟩ : ∃ oc, ordC ⟨px, py, pz⟩ ⟨x, y, z⟩ = oc := ⟨_, rfl⟩
            rw [hoc] at hoj hdef
            obtain ⟨od, hod⟩ : ∃ od, cmpI pd (dn : Int) = od := ⟨_, rfl⟩
            rw [hod] at h8 hdef
            have ho3 := fun (w' : World) (g : Nat) (h : w'.heap[g]? = some (.cells #[.int .i64 oc, .int .i64 od] 3)) => or_any (some ⟨g, 0, none⟩) 2 [oc, od] w' (row_heap h) (by simp)
            rw [← hdef] at ho3
            obtain ⟨o, ho⟩ : ∃ o, ordK ⟨⟨px, py, pz⟩, pd, ps⟩ ⟨⟨x, y, z⟩, (dn : Int), srt⟩ = o := ⟨_, rfl⟩
            rw [ho] at ho3 Hbad HA5
            have Hoj := Lib.hid hoj
            have Ho8 := Lib.hid h8
            have Ho3 := Lib.hid ho3
            have hs1 : IntKind.i64.wrap (((i + 1 : Nat) : Int) - 1) = (i : Int) := by rw [IntKind.wrap_i64]; omega
            have hs2 : IntKind.i64.wrap ((i : Int) + 1 - 1) = (i : Int) := by rw [IntKind.wrap_i64]; omega
            have him : (i : Int) < (m : Int) := by omega
            have hi0 : (0 : Int) < (i : Int) + 1 := by omega
            clear hkp hoc hod ho hdef hoj h8 ho3 y0 y1 y2 y3 hxw Hkt Hko Hno4 HA2
            by_cases hlo : o < 0
            · have HA6 := Lib.hid (HA5.out hlo)
              have ho2 : ¬ o ≥ 0 := by omega
              go_wp2
              refine Cg.wp_region_calm (p := Cg.extPre) (fr := (fun _ => false)) 27 (fun j _ v w' => (j = 12 → v = .int .i64 oc) ∧ (j = 22 → v = .int .i64 od) ∧ (j = 23 → ∃ b, v = .slice (some ⟨b, 0, none⟩) 2 2 ∧ w'.heap[b]? = some (.cells #[.int .i64 oc, .int .i64 od] 3)) ∧ (j = 24 → v = .int .i64 o)) (fun _ _ _ _ _ he h => ⟨h.1, h.2.1, fun e => by obtain ⟨b, e1, e2⟩ := h.2.2.1 e; exact ⟨b, e1, Ext.heap he e2⟩, h.2.2.2⟩) (by kernel_rfl) (by kernel_rfl) ?_
              simp only [List.take_succ_cons, List.take_zero, List.drop_succ_cons, List.drop_zero]
              refine Cg.calm_quiet Cg.calm_mono_final W3 (fun _ h => h) 12 (by kernel_rfl) ?_
              simp only [List.take_succ_cons, List.take_zero, List.drop_succ_cons, List.drop_zero]
              repeat (go_big_quiet_step (fail))
              refine wpQuiet_nil ?_
              refine Cg.calm_call Cg.calm_mono_final 105 #[.agg #[.int .i64 px, .int .i64 py, .int .i64 pz], .agg #[.int .i64 x, .int .i64 y, .int .i64 z]] rfl (fun w => ?_) (fun w he hF => ?_) ?_
              · go_simp
              · exact (Hoj.out w).mono fun e w'' ⟨he', hx⟩ => ⟨_, he', hx, ⟨fun _ => rfl, fun h => (by cases h), fun h => (by cases h), fun h => (by cases h)⟩, fun h => by cases h⟩
              rintro _ _ _ h _
              cases h.1 rfl
              simp only [Act.put, List.setIfInBounds_toArray, List.set_cons_succ, List.set_cons_zero]
              refine Cg.calm_quiet Cg.calm_mono_final W3 (fun _ h => h) 9 (by kernel_rfl) ?_
              simp only [List.take_succ_cons, List.take_zero, List.drop_succ_cons, List.drop_zero]
              repeat (go_big_quiet_step (fail))
              refine wpQuiet_nil ?_
              refine Cg.calm_call Cg.calm_mono_final 146 #[.int .u8 pd, .int .u8 dn] rfl (fun w => ?_) (fun w he hF => ?_) ?_
              · go_simp
              · exact (Ho8.out w).mono fun e w'' ⟨he', hx⟩ => ⟨_, he', by rw [← hx]; exact Ext.refl _, ⟨fun h => (by cases h), fun _ => rfl, fun h => (by cases h), fun h => (by cases h)⟩, fun h => by cases h⟩
              rintro _ _ _ h _
              cases h.2.1 rfl
              simp only [Act.put, List.setIfInBounds_toArray, List.set_cons_succ, List.set_cons_zero]
              refine Cg.calm_value Cg.calm_mono_final (fun v w => ∃ b, v = .slice (some ⟨b, 0, none⟩) 2 2 ∧ w.heap[b]? = some (.cells #[.int .i64 oc, .int .i64 od] 3)) (fun _ w' w'' hR ⟨b, e, hh⟩ => ⟨b, e, Ext.heap hR hh⟩) rfl (fun w' hR _ => ⟨.slice (some ⟨w'.heap.size, 0, none⟩) 2 2, w'.alloc (.cells #[.int .i64 oc, .int .i64 od] 3), by go_simp, (Ext.refl _).alloc _, ⟨_, rfl, heap_alloc_new _ _⟩, fun hf => by cases hf⟩) ?_
              rintro _ _ _ ⟨g, rfl, _⟩ _
              simp only [Act.put, List.setIfInBounds_toArray, List.set_cons_succ, List.set_cons_zero]
              refine Cg.calm_call Cg.calm_mono_final 143 #[.slice (some ⟨g, 0, none⟩) 2 2] rfl (fun w => ?_) (fun w he hF => ?_) ?_
              · go_simp
              · obtain ⟨g', e1, hh⟩ := (hF 23 (by kernel_rfl)).2 rfl
                simp only [Value.slice.injEq, Option.some.injEq, Addr.mk.injEq, and_true] at e1
                subst e1
                exact (Ho3.out w g hh).mono fun e w'' ⟨he', hx⟩ => ⟨_, he', by rw [← hx]; exact Ext.refl _, ⟨fun h => (by cases h), fun h => (by cases h), fun h => (by cases h), fun _ => rfl⟩, fun h => by cases h⟩
              rintro _ _ _ h _
              cases h.2.2.2 rfl
              simp only [Act.put, List.setIfInBounds_toArray, List.set_cons_succ, List.set_cons_zero]
              refine Cg.calm_quiet Cg.calm_mono_final W3 (fun _ h => h) 2 (by kernel_rfl) ?_
              simp only [List.take_succ_cons, List.take_zero, List.drop_succ_cons, List.drop_zero]
              repeat (go_big_quiet_step (fail))
              refine wpQuiet_nil ?_
              refine Cg.calm_nil fun w4 he4 _ => ?_
              have he4 : Ext W3 w4 := he4
              have H4 := Lib.hid ((Hex.out.trans (Hxq.out.trans H3.out)).trans he4)
              clear he4 r0 r1 r2 r3 d1 v0 v1 v2 v3 hs1 hs2
              go_wp2
              go_roundw
              case rel => exact ⟨i + 1 + 1, by omega, by go_num, H4.out, HA4, HA6⟩
              case measure => simp [intOf]; omega
            · have HB := Lib.hid (Hbad.out (by omega))
              have ho2 : o ≥ 0 := by omega
              go_wp2
              refine Cg.wp_region_calm (p := Cg.extPre) (fr := (fun _ => false)) 27 (fun j _ v w' => (j = 12 → v = .int .i64 oc) ∧ (j = 22 → v = .int .i64 od) ∧ (j = 23 → ∃ b, v = .slice (some ⟨b, 0, none⟩) 2 2 ∧ w'.heap[b]? = some (.cells #[.int .i64 oc, .int .i64 od] 3)) ∧ (j = 24 → v = .int .i64 o)) (fun _ _ _ _ _ he h => ⟨h.1, h.2.1, fun e => by obtain ⟨b, e1, e2⟩ := h.2.2.1 e; exact ⟨b, e1, Ext.heap he e2⟩, h.2.2.2⟩) (by kernel_rfl) (by kernel_rfl) ?_
              simp only [List.take_succ_cons, List.take_zero, List.drop_succ_cons, List.drop_zero]
              refine Cg.calm_quiet Cg.calm_mono_final W3 (fun _ h => h) 12 (by kernel_rfl) ?_
              simp only [List.take_succ_cons, List.take_zero, List.drop_succ_cons, List.drop_zero]
              repeat (go_big_quiet_step (fail))
              refine wpQuiet_nil ?_
              refine Cg.calm_call Cg.calm_mono_final 105 #[.agg #[.int .i64 px, .int .i64 py, .int .i64 pz], .agg #[.int .i64 x, .int .i64 y, .int .i64 z]] rfl (fun w => ?_) (fun w he hF => ?_) ?_
              · go_simp
              · exact (Hoj.out w).mono fun e w'' ⟨he', hx⟩ => ⟨_, he', hx, ⟨fun _ => rfl, fun h => (by cases h), fun h => (by cases h), fun h => (by cases h)⟩, fun h => by cases h⟩
              rintro _ _ _ h _
              cases h.1 rfl
              simp only [Act.put, List.setIfInBounds_toArray, List.set_cons_succ, List.set_cons_zero]
              refine Cg.calm_quiet Cg.calm_mono_final W3 (fun _ h => h) 9 (by kernel_rfl) ?_
              simp only [List.take_succ_cons, List.take_zero, List.drop_succ_cons, List.drop_zero]
              repeat (go_big_quiet_step (fail))
              refine wpQuiet_nil ?_
              refine Cg.calm_call Cg.calm_mono_final 146 #[.int .u8 pd, .int .u8 dn] rfl (fun w => ?_) (fun w he hF => ?_) ?_
              · go_simp
              · exact (Ho8.out w).mono fun e w'' ⟨he', hx⟩ => ⟨_, he', by rw [← hx]; exact Ext.refl _, ⟨fun h => (by cases h), fun _ => rfl, fun h => (by cases h), fun h => (by cases h)⟩, fun h => by cases h⟩
              rintro _ _ _ h _
              cases h.2.1 rfl
              simp only [Act.put, List.setIfInBounds_toArray, List.set_cons_succ, List.set_cons_zero]
              refine Cg.calm_value Cg.calm_mono_final (fun v w => ∃ b, v = .slice (some ⟨b, 0, none⟩) 2 2 ∧ w.heap[b]? = some (.cells #[.int .i64 oc, .int .i64 od] 3)) (fun _ w' w'' hR ⟨b, e, hh⟩ => ⟨b, e, Ext.heap hR hh⟩) rfl (fun w' hR _ => ⟨.slice (some ⟨w'.heap.size, 0, none⟩) 2 2, w'.alloc (.cells #[.int .i64 oc, .int .i64 od] 3), by go_simp, (Ext.refl _).alloc _, ⟨_, rfl, heap_alloc_new _ _⟩, fun hf => by cases hf⟩) ?_
              rintro _ _ _ ⟨g, rfl, _⟩ _
              simp only [Act.put, List.setIfInBounds_toArray, List.set_cons_succ, List.set_cons_zero]
              refine Cg.calm_call Cg.calm_mono_final 143 #[.slice (some ⟨g, 0, none⟩) 2 2] rfl (fun w => ?_) (fun w he hF => ?_) ?_
              · go_simp
              · obtain ⟨g', e1, hh⟩ := (hF 23 (by kernel_rfl)).2 rfl
                simp only [Value.slice.injEq, Option.some.injEq, Addr.mk.injEq, and_true] at e1
                subst e1
                exact (Ho3.out w g hh).mono fun e w'' ⟨he', hx⟩ => ⟨_, he', by rw [← hx]; exact Ext.refl _, ⟨fun h => (by cases h), fun h => (by cases h), fun h => (by cases h), fun _ => rfl⟩, fun h => by cases h⟩
              rintro _ _ _ h _
              cases h.2.2.2 rfl
              simp only [Act.put, List.setIfInBounds_toArray, List.set_cons_succ, List.set_cons_zero]
              refine Cg.calm_quiet Cg.calm_mono_final W3 (fun _ h => h) 2 (by kernel_rfl) ?_
              simp only [List.take_succ_cons, List.take_zero, List.drop_succ_cons, List.drop_zero]
              repeat (go_big_quiet_step (fail))
              refine wpQuiet_nil ?_
              refine Cg.calm_nil fun w4 he4 _ => ?_
              have he4 : Ext W3 w4 := he4
              have H4 := Lib.hid ((Hxz.out.trans H3.out).trans he4)
              clear he4 r0 r1 r2 r3 d1 v0 v1 v2 v3 hs1 hs2
              go_wp2
              go_ret
              exact tells_no (by decide) HB.out H4.out
        · obtain rfl : m = j := by omega
          go_wp2
          go_ret
          exact tells_yes (Hyes2.out HA1.out HA2.out) (Hx0.out.trans hex)
end Go.Proofs.YtebkhdhhajjhfaaGreat.Lt

/- Kinds and bricks that are valid pass. -/
namespace Go.Proofs.YtebkhdhhajjhfaaGreat.Lt
open Go.RowKit
/-- A valid brick, of so many kinds. -/
structure BrOk (n : Nat) (b : Br) : Prop where
  k0 : 0 ≤ b.kind
  k1 : b.kind < n
  near : nearP b.at_ (-1000) 1000
  t0 : 0 ≤ b.trn
  t1 : b.trn < 24
  c0 : 0 ≤ b.col
  c1 : b.col ≤ 15
end Go.Proofs.YtebkhdhhajjhfaaGreat.Lt

/- CheckKinds, valid, check: they return 0 exactly at valid kinds and bricks. -/
namespace Go.Proofs.YtebkhdhhajjhfaaGreat.Lt
open Go.RowKit
/-- Valid kinds. -/
def kindsP (l : List Ki) : Prop := l.length ≤ 16 ∧ ∀ i, i < l.length → KiOk (kiA l i)
/-- What the types say of kinds. -/
def kindsW (l : List Ki) : Prop := ∀ i, i < l.length → ∀ j, j < (kiA l i).ks.length → 0 ≤ (knA (kiA l i).ks j).dir
set_option maxRecDepth 100000 in
set_option maxHeartbeats 4000000 in
theorem checkkinds_gen (l : List Ki) (A : Option Addr) (c : Nat) (w : World) (hA : KiRow w A l) (h8 : kindsW l) : Calls Tryz.prog 73 #[.slice A l.length c] w (Tells (kindsP l) w) := by
  by_cases hl : ¬ l.length ≤ 16
  · have hno : ¬ kindsP l := fun h => hl h.1
    have Hno := Lib.hid hno
    generalize kindsP l = OK at *
    generalize l.length = n at *
    have hn : (n : Int) > 16 := by omega
    clear hl hno hA h8
    go_enter Tryz.func73, Tryz.ntmps73
    go_wp2
    go_ret
    exact tells_no (by decide) Hno.out (Ext.refl _)
  have hl := Classical.not_not.1 hl
  have hat := fun j (hj : j < l.length) => (show ∃ ad B b D d, A = some ad ∧ (∀ w', Ext w w' → w'.cell? (ad.add (j * 3)) = some (.slice B (kiA l j).cs.length b)) ∧ (∀ w', Ext w w' → w'.cell? ⟨(ad.add (j * 3)).block, (ad.add (j * 3)).off + 1, none⟩ = some (.slice D (kiA l j).ks.length d)) ∧
      (∀ w', Ext w w' → w'.cell? ⟨(ad.add (j * 3)).block, (ad.add (j * 3)).off + 2, none⟩ = some (.int .i64 (kiA l j).wt)) ∧ ∀ w', Ext w w' → Calls Tryz.prog 106 #[.agg #[.slice B (kiA l j).cs.length b, .slice D (kiA l j).ks.length d, .int .i64 (kiA l j).wt]] w' (Tells (KiOk (kiA l j)) w') from by
    obtain ⟨ad, B, b, D, d, h1, h2, h3, h4, h5, h6⟩ := hA j hj
    exact ⟨ad, B, b, D, d, h1, h2, h3, h4, fun w' he => checkkind_gen _ B b D d w' (h5.ext he) (h6.ext he) (h8 j hj)⟩)
  have hno : ∀ j, j < l.length → ¬ KiOk (kiA l j) → ¬ kindsP l := fun j hj h hk => h (hk.2 j hj)
  have hyes : (∀ j, j < l.length → KiOk (kiA l j)) → kindsP l := fun h => ⟨hl, h⟩
  have Hat := Lib.hid hat
  have Hno := Lib.hid hno
  have Hyes := Lib.hid hyes
  clear hat hno hyes hA h8
  generalize kindsP l = OK at *
  generalize l.length = n at *
  have hn : ¬ (n : Int) > 16 := by omega
  go_enter Tryz.func73, Tryz.ntmps73
  go_wp2
  go_loopw [11] (fun i wr => ∃ j : Nat, j ≤ n ∧ i = .int .i64 j ∧ Ext w wr ∧ Hid (∀ t, t < j → KiOk (kiA l t))) (fun i _ => n - (intOf i).toNat)
  case atStart => exact ⟨0, by omega, rfl, Ext.refl _, Lib.hid (fun t h => absurd h (by omega))⟩
  case round =>
    obtain ⟨j, hj, rfl, hex, HA⟩ := hrel
    by_cases hlt : j < n
    · have hji : (j : Int) < (n : Int) := by omega
      obtain ⟨ad, B, b, D, d, rfl, x0, x1, x2, hc⟩ := Hat.out j hlt
      have u0 := fun w' he => x0 w' (hex.trans he)
      have u1 := fun w' he => x1 w' (hex.trans he)
      have u2 := fun w' he => x2 w' (hex.trans he)
      have hbad := Hno.out j hlt
      have hst : KiOk (kiA l j) → ∀ t, t < j + 1 → KiOk (kiA l t) := fun h t ht => by
        rcases (by omega : t < j ∨ t = j) with h' | rfl
        · exact HA.out t h'
        · exact h
      have Hc := Lib.hid hc
      have Hex := Lib.hid hex
      have Hbad := Lib.hid hbad
      have Hst := Lib.hid hst
      clear x0 x1 x2 hc hex Hat hbad hst Hno Hyes HA
      generalize KiOk (kiA l j) = OKj at Hc Hbad Hst
      generalize (kiA l j).cs.length = m at *
      generalize (kiA l j).ks.length = mk at *
      generalize (kiA l j).wt = wt at *
      by_cases hOK : OKj
      · have HO := Lib.hid hOK
        clear hOK Hbad
        go_wp2_with (go_at_call 106; refine (Hc.out _ (Hex.out.trans (by simp (maxDischargeDepth := 8)))).mono ?_; rintro e w3 ⟨x, rfl, hx, hx3⟩; have H3 := Lib.hid (Hex.out.trans (((Ext.refl wr).alloc _).trans hx3)); obtain rfl : x = 0 := hx.2 HO.out; clear hx hx3 u0 u1 u2)
        go_roundw
        case rel => exact ⟨j + 1, by omega, by go_num, H3.out, Lib.hid (Hst.out HO.out)⟩
        case measure => simp [intOf]; omega
      · have HO := Lib.hid hOK
        clear hOK Hst
        go_wp2_with (go_at_call 106; refine (Hc.out _ (Hex.out.trans (by simp (maxDischargeDepth := 8)))).mono ?_; rintro e w3 ⟨x, rfl, hx, hx3⟩; have H3 := Lib.hid (Hex.out.trans (((Ext.refl wr).alloc _).trans hx3)); have hxz : x ≠ 0 := (fun h => HO.out (hx.1 h)); have hxn : (x != 0) = true := (by simp [hxz]); have HZ := Lib.hid hxz; clear hxz; clear hx hx3 u0 u1 u2)
        go_ret
        exact tells_no HZ.out (Hbad.out HO.out) H3.out
    · obtain rfl : n = j := by omega
      go_wp2
      go_ret
      exact tells_yes (Hyes.out HA.out) hex
/-- It returns true exactly if P. -/
def TellB (P : Prop) (w : World) (e : Ending) (w' : World) : Prop := ∃ v : Bool, e = .returned (.bool v) ∧ (v = true ↔ P) ∧ Ext w w'
theorem tellB {P : Prop} {w w' : World} {v : Bool} (h : v = true ↔ P) (he : Ext w w') : TellB P w (.returned (.bool v)) w' := ⟨v, rfl, h, he⟩
set_option maxHeartbeats 2000000 in
theorem valid_gen (n c : Nat) (A : Option Addr) (b : Br) (w : World) (h0 : 0 ≤ b.trn) (h1 : 0 ≤ b.col) : Calls Tryz.prog 102 #[.slice A n c, b.val] w (TellB (BrOk n b) w) := by
  have hnr := fun w' => near_any b.at_ (-1000) 1000 w'
  have hno : ¬ (0 ≤ b.kind ∧ b.kind < n ∧ nearP b.at_ (-1000) 1000 ∧ b.trn < 24 ∧ b.col ≤ 15) → (false = true ↔ BrOk n b) := fun h => ⟨fun e => (by cases e), fun k => absurd ⟨k.k0, k.k1, k.near, k.t1, k.c1⟩ h⟩
  have hyes : 0 ≤ b.kind → b.kind < n → nearP b.at_ (-1000) 1000 → b.trn < 24 → b.col ≤ 15 → (true = true ↔ BrOk n b) := fun a1 a2 a3 a4 a5 => ⟨fun _ => ⟨a1, a2, a3, h0, a4, h1, a5⟩, fun _ => rfl⟩
  have Hno := Lib.hid hno
  have Hyes := Lib.hid hyes
  clear hno hyes h0 h1
  generalize BrOk n b = OK at *
  obtain ⟨nb, hnb⟩ : ∃ nb, nearB b.at_ (-1000) 1000 = nb := ⟨_, rfl⟩
  have HNP := Lib.hid (show nb = true ↔ nearP b.at_ (-1000) 1000 from by rw [← hnb]; exact decide_eq_true_iff)
  rw [hnb] at hnr
  clear hnb
  generalize nearP b.at_ (-1000) 1000 = NP at *
  obtain ⟨kind, ⟨x, y, z⟩, trn, col⟩ := b
  simp only at hnr Hno Hyes HNP
  have kq : Blk (w.alloc (.cells #[.int .i64 kind, .int .i64 x, .int .i64 y, .int .i64 z, .int .u8 trn, .int .u8 col] 85)) w.heap.size [.int .i64 kind, .int .i64 x, .int .i64 y, .int .i64 z, .int .u8 trn, .int .u8 col] := Blk.new _ _
  have q0 := kq.at_ 0 rfl
  have q1 := kq.at_ 1 rfl
  have q2 := kq.at_ 2 rfl
  have q3 := kq.at_ 3 rfl
  have q4 := kq.at_ 4 rfl
  have q5 := kq.at_ 5 rfl
  clear kq
  by_cases c1 : ¬ 0 ≤ kind
  · have d1 : ¬ kind ≥ 0 := c1
    clear Hyes hnr
    go_enter Tryz.func102, Tryz.ntmps102
    go_wp2
    go_ret
    exact tellB (Hno.out (fun h => by omega)) ((Ext.refl _).alloc _)
  have d1 : kind ≥ 0 := by omega
  by_cases c2 : ¬ kind < (n : Int)
  · clear Hyes hnr
    go_enter Tryz.func102, Tryz.ntmps102
    go_wp2
    go_ret
    exact tellB (Hno.out (fun h => by omega)) ((Ext.refl _).alloc _)
  have d2 : kind < (n : Int) := by omega
  clear c1 c2

  by_cases c3 : ¬ NP
  · obtain rfl : nb = false := by cases nb with
      | false => rfl
      | true => exact absurd (HNP.out.1 rfl) c3
    have Hnr := Lib.hid hnr
    clear hnr Hyes
    go_enter Tryz.func102, Tryz.ntmps102
    go_wp2_with (go_at_call 57; refine (Hnr.out _).mono ?_; rintro e w3 ⟨rfl, hx⟩; have H3 := Lib.hid (((Ext.refl w).alloc _).trans hx); clear q0 q1 q2 q3 q4 q5 hx)
    go_ret
    exact tellB (Hno.out (fun h => c3 h.2.2.1)) (H3.out)
  have c3 := Classical.not_not.1 c3
  obtain rfl : nb = true := HNP.out.2 c3
  clear HNP
  have Hnr := Lib.hid hnr
  have C3 := Lib.hid c3
  clear hnr c3
  by_cases c4 : ¬ trn < 24
  · clear Hyes
    go_enter Tryz.func102, Tryz.ntmps102
    go_wp2_with (go_at_call 57; refine (Hnr.out _).mono ?_; rintro e w3 ⟨rfl, hx⟩; have r4 := fun w' (he : Ext w3 w') => q4 w' (hx.trans he); have r5 := fun w' (he : Ext w3 w') => q5 w' (hx.trans he); have H3 := Lib.hid (((Ext.refl w).alloc _).trans hx); clear q0 q1 q2 q3 q4 q5 hx)
    go_ret
    exact tellB (Hno.out (fun h => by omega)) (H3.out)
  have d4 : trn < 24 := by omega
  clear c4
  by_cases c5 : ¬ col ≤ 15
  · clear Hyes
    go_enter Tryz.func102, Tryz.ntmps102
    go_wp2_with (go_at_call 57; refine (Hnr.out _).mono ?_; rintro e w3 ⟨rfl, hx⟩; have r4 := fun w' (he : Ext w3 w') => q4 w' (hx.trans he); have r5 := fun w' (he : Ext w3 w') => q5 w' (hx.trans he); have H3 := Lib.hid (((Ext.refl w).alloc _).trans hx); clear q0 q1 q2 q3 q4 q5 hx)
    go_ret
    rw [decide_eq_false (show ¬ col ≤ 15 by omega)]
    exact tellB (Hno.out (fun h => by omega)) (H3.out)
  have d5 : col ≤ 15 := by omega
  clear c5
  go_enter Tryz.func102, Tryz.ntmps102
  go_wp2_with (go_at_call 57; refine (Hnr.out _).mono ?_; rintro e w3 ⟨rfl, hx⟩; have r4 := fun w' (he : Ext w3 w') => q4 w' (hx.trans he); have r5 := fun w' (he : Ext w3 w') => q5 w' (hx.trans he); have H3 := Lib.hid (((Ext.refl w).alloc _).trans hx); clear q0 q1 q2 q3 q4 q5 hx)
  go_ret
  exact tellB (by simpa using Hyes.out d1 d2 C3.out d4 d5) (H3.out)
/-- Valid bricks, of so many kinds. -/
def bricksP (n : Nat) (ms : List Br) : Prop := ∀ i, i < ms.length → BrOk n (brA ms i)
/-- What the types say of bricks. -/
def bricksW (ms : List Br) : Prop := ∀ i, i < ms.length → 0 ≤ (brA ms i).trn ∧ 0 ≤ (brA ms i).col
set_option maxRecDepth 100000 in
set_option maxHeartbeats 4000000 in
theorem check_gen (l : List Ki) (A : Option Addr) (c : Nat) (ms : List Br) (M : Option Addr) (mc : Nat) (w : World) (hA : KiRow w A l) (h8 : kindsW l) (hM : BrRow w M ms) (hm : ms.length ≤ 1000) (hw : bricksW ms) :
    Calls Tryz.prog 71 #[.slice A l.length c, .slice M ms.length mc] w (Tells (kindsP l ∧ bricksP l.length ms) w) := by
  have hck := fun w' (he : Ext w w') => checkkinds_gen l A c w' (hA.ext he) h8
  have hat := fun j (hj : j < ms.length) => hM.at_ hj
  have hv := fun j (hj : j < ms.length) w' => valid_gen l.length c A (brA ms j) w' (hw j hj).1 (hw j hj).2
  have hno1 : ¬ kindsP l → ¬ (kindsP l ∧ bricksP l.length ms) := fun h hk => h hk.1
  have hno2 : ∀ j, j < ms.length → ¬ BrOk l.length (brA ms j) → ¬ (kindsP l ∧ bricksP l.length ms) := fun j hj h hk => h (hk.2 j hj)
  have hyes : kindsP l → (∀ j, j < ms.length → BrOk l.length (brA ms j)) → kindsP l ∧ bricksP l.length ms := fun h1 h2 => ⟨h1, h2⟩
  have Hck := Lib.hid hck
  have Hat := Lib.hid hat
  have Hv := Lib.hid hv
  have Hno1 := Lib.hid hno1
  have Hno2 := Lib.hid hno2
  have Hyes := Lib.hid hyes
  clear hck hat hv hno1 hno2 hyes hA h8 hM hw
  generalize (kindsP l ∧ bricksP l.length ms) = OK at *
  generalize kindsP l = KP at *
  generalize l.length = n at *
  obtain ⟨m, hmE⟩ : ∃ m, m = ms.length := ⟨_, rfl⟩
  simp only [← hmE] at hm Hat Hv Hno2 Hyes ⊢
  clear hmE

  by_cases hKP : ¬ KP
  · have HB := Lib.hid (Hno1.out hKP)
    clear Hat Hv Hno1 Hno2 Hyes
    go_enter Tryz.func71, Tryz.ntmps71
    go_wp2_with (go_at_call 73; refine (Hck.out _ (Ext.refl _)).mono ?_; rintro e w1 ⟨x, rfl, hx, hx1⟩; have hxn : (x != 0) = true := (by simp; exact fun h => hKP (hx.1 h)); have hxz : x ≠ 0 := (fun h => hKP (hx.1 h)); have H1 := Lib.hid hx1; have HZ := Lib.hid hxz; clear hx hx1 hxz)
    go_ret
    exact tells_no HZ.out HB.out H1.out
  have hKP := Classical.not_not.1 hKP
  have Hyes2 := Lib.hid (Hyes.out hKP)
  have HK := Lib.hid hKP
  clear Hyes Hno1 hKP
  go_enter Tryz.func71, Tryz.ntmps71
  go_wp2_with (go_at_call 73; refine (Hck.out _ (Ext.refl _)).mono ?_; rintro e w1 ⟨x, rfl, hx, hx1⟩; obtain rfl : x = 0 := hx.2 HK.out; clear hx)
  have Hx1 := Lib.hid hx1
  clear hx1 Hck
  go_loopw [15] (fun i wr => ∃ j : Nat, j ≤ m ∧ i = .int .i64 j ∧ Ext w wr ∧ Hid (∀ t, t < j → BrOk n (brA ms t))) (fun i _ => m - (intOf i).toNat)
  case atStart => exact ⟨0, by omega, rfl, Hx1.out, Lib.hid (fun t h => absurd h (by omega))⟩
  case round =>
    clear Hx1
    obtain ⟨j, hj, rfl, hex, HA⟩ := hrel
    by_cases hlt : j < m
    · have hji : (j : Int) < (m : Int) := by omega
      obtain ⟨ad, rfl, x0, x1, x2, x3, x4, x5⟩ := Hat.out j hlt
      have u0 := fun w' he => x0 w' (hex.trans he)
      have u1 := fun w' he => x1 w' (hex.trans he)
      have u2 := fun w' he => x2 w' (hex.trans he)
      have u3 := fun w' he => x3 w' (hex.trans he)
      have u4 := fun w' he => x4 w' (hex.trans he)
      have u5 := fun w' he => x5 w' (hex.trans he)
      have hst : BrOk n (brA ms j) → ∀ t, t < j + 1 → BrOk n (brA ms t) := fun h t ht => by
        rcases (by omega : t < j ∨ t = j) with h' | rfl
        · exact HA.out t h'
        · exact h
      have Hvj := Lib.hid (Hv.out j hlt)
      have Hbad := Lib.hid (Hno2.out j hlt)
      have Hst := Lib.hid hst
      have Hex := Lib.hid hex
      have hw1 : IntKind.i64.wrap ((j : Int) + 1) = ((j + 1 : Nat) : Int) := by rw [IntKind.wrap_i64]; omega
      clear x0 x1 x2 x3 x4 x5 hex Hat Hv hst Hno2 Hyes2 HA
      generalize BrOk n (brA ms j) = OKj at Hvj Hbad Hst
      generalize brA ms j = b at *
      obtain ⟨kind, ⟨x, y, z⟩, trn, col⟩ := b
      simp only [Br.val] at u0 u1 u2 u3 u4 u5 Hvj
      by_cases hOK : OKj
      · have HO := Lib.hid hOK
        clear hOK Hbad
        go_wp2_with (go_at_call 102; refine (Hvj.out _).mono ?_; rintro e w3 ⟨v, rfl, hv, hx⟩; have H3 := Lib.hid (Hex.out.trans (((Ext.refl wr).alloc _).trans hx)); obtain rfl : v = true := hv.2 HO.out; clear hx hv u0 u1 u2 u3 u4 u5)
        go_roundw
        case rel => exact ⟨j + 1, by omega, by go_num, H3.out, Lib.hid (Hst.out HO.out)⟩
        case measure => simp [intOf]; omega
      · have HO := Lib.hid hOK
        clear hOK Hst
        go_wp2_with (go_at_call 102; refine (Hvj.out _).mono ?_; rintro e w3 ⟨v, rfl, hv, hx⟩; have H3 := Lib.hid (Hex.out.trans (((Ext.refl wr).alloc _).trans hx)); obtain rfl : v = false := (by cases v with | false => rfl | true => exact absurd (hv.1 rfl) HO.out); clear hx hv u0 u1 u2 u3 u4 u5)
        go_ret
        exact tells_no (by decide) (Hbad.out HO.out) H3.out
    · obtain rfl : m = j := by omega
      go_wp2
      go_ret
      exact tells_yes (Hyes2.out HA.out) hex
end Go.Proofs.YtebkhdhhajjhfaaGreat.Lt

/- 'm[k] = append(m[k], v)' on a map of slices of the call's own, as the translation has it: the entry is made first, the slice is stored behind the append. No program in sight. -/
namespace Go.Proofs.YtebkhdhhajjhfaaGreat.Lt
open Go Go.ChangeMaps Go.MapKept Go.RowKit
open Go.WideElems (Fit rd rg pl rd_val rd_key rg_of entry_then_store)
open Go.Maps (Keyed)
section
variable {H : Type} {P : Program} {w : World} {t k E e : TypeId} {q : IntKind} {base b n : Nat} {D : DataW H}
theorem same_entry (K : Keyed P k) {R : Value → Option (DataW H × List MemPlace)} {es : Array MapEntry} {clock : Nat} (F : Fit P k R es clock) {x y : MapEntry} (hx : x ∈ es.toList) (hy : y ∈ es.toList) (h : x.key = y.key) : x = y := by
  have hp := List.pairwise_map.1 (Maps.fit_apart K F)
  have hk : (rg P k R x).1 = (rg P k R y).1 := by
    obtain ⟨u, hu⟩ := F.reads x hx
    obtain ⟨v, hv⟩ := F.reads y hy
    rw [rg_of hu, rg_of hv]
    have h1 := rd_key hu
    have h2 := rd_key hv
    rw [h, h2] at h1
    exact (Option.some.inj h1).symm
  obtain ⟨i, hi, rfl⟩ := List.getElem_of_mem hx
  obtain ⟨j, hj, rfl⟩ := List.getElem_of_mem hy
  have hp2 := List.pairwise_iff_getElem.1 hp
  rcases Nat.lt_trichotomy i j with h1 | h1 | h1
  · exact absurd hk (hp2 i j hi hj h1)
  · subst h1; rfl
  · exact absurd hk.symm (hp2 j i hj hi h1)
theorem setBlock_inj {es : Array MapEntry} {clock : Nat} {o o' : Obj} (hb : w.heap[b]? = some (.map es clock)) (h : setBlock w b o = setBlock w b o') : o = o' := by
  have h1 := heap_setBlock_same hb o
  rw [h, heap_setBlock_same hb o'] at h1
  exact (Option.some.inj h1).symm
theorem set_grown {es es' : Array MapEntry} {clock clock' : Nat} (hb : w.heap[b]? = some (.map es clock)) : w.grownBy (setBlock w b (.map es' clock')) (some b) :=
  ⟨rfl, rfl, rfl, by simp [setBlock], fun i _ hi => heap_setBlock_other hb _ (fun e1 => hi (by rw [e1]))⟩
/-- The way back behind an entry that has been made. -/
def EntryBack (w1 : World) (P : Program) (t k base e : Nat) (q : IntKind) (b n : Nat) (D : DataW H) (kl : Lit) (v : Value) (st : Nat) : Prop :=
  ∀ (w2 : World) (v' : Value) (zs' : List Int), w1.grownBy w2 v.ownBlock → w2.ownsInts base e q v' zs' → zs'.length ≤ n + 1 → (v'.ownBlock = v.ownBlock ∨ ∃ g, v'.ownBlock = some g ∧ w1.heap.size ≤ g) →
    ∃ w3, (Instr.entryStore t (.map (some b)) (goInt st) v').run P w2 = .ok () w3 ∧ w3.ownsGroups P k base e q b (n + 1) (D.put kl (rowDatum q v' zs')) ∧ w2.grownBy w3 (some b)
theorem groups_entry (h : w.ownsGroups P k base e q b n D) (KL : WideMaps.KeyLaw P k) (ht : P.underlying t = some (.map k E)) (hz : ∀ u : World, (zeroValue E).run P u = .ok (.slice none 0 0) u) (hn : n < maxLen) {key : Value} {kl : Lit} (hkey : keyOf P k key = some kl) :
    ∃ (v : Value) (zs : List Int) (st : Nat) (w1 : World), (Instr.mapEntry t (.map (some b)) key).run P w = .ok (.tuple #[v, goInt st]) w1 ∧ w.grownBy w1 (some b) ∧ D.atKey kl .nil = rowDatum q v zs ∧ w1.ownsInts base e q v zs ∧ zs.length ≤ n ∧ EntryBack w1 P t k base e q b n D kl v st := by
  have K : Keyed P k := Keyed.of_law KL
  obtain ⟨es, clock, hb, F, hs, rfl, hbb, hlen, hap⟩ := h
  obtain ⟨v0, st, es1, clock1, hrun, hcase, hback⟩ := entry_then_store KL ht hz hb F hkey
  have hblt : b < w.heap.size := (Array.getElem?_eq_some_iff.1 hb).1
  have hg1 : w.grownBy (setBlock w b (.map es1 clock1)) (some b) := set_grown hb
  have hb1 : (setBlock w b (.map es1 clock1)).heap[b]? = some (.map es1 clock1) := heap_setBlock_same hb _
  have owned : ∀ x ∈ es.toList, ∃ zs, w.ownsInts base e q x.val zs := fun x hx => by
    obtain ⟨y, hy⟩ := F.reads x hx
    obtain ⟨z, hz, _⟩ := rd_val hy
    obtain ⟨zs, ho, _⟩ := rowElem_inv hz
    exact ⟨zs, ho⟩
  have ne_b : ∀ {W : World} {u : Value} {ys : List Int}, W.ownsInts base e q u ys → u.ownBlock = none ∨ u.ownBlock ≠ some b := fun {W u ys} ho => by
    cases hu : u.ownBlock with
    | none => exact .inl rfl
    | some g =>
      refine .inr fun e1 => ?_
      have := (ho.1.lt g hu).1
      cases e1
      omega
  have key1 : ∃ zs, (DataW.map ((es.toList.map (rg P k (rowElem (H := H) w base e q))).foldr DataW.insert [])).atKey kl .nil = rowDatum q v0 zs ∧ w.ownsInts base e q v0 zs ∧ zs.length ≤ n ∧ (∀ x ∈ es.toList, x.key ≠ key → x.val.ownBlock = none ∨ x.val.ownBlock ≠ v0.ownBlock) := by
    rcases Maps.fit_look false K ht (hz w) hb F hkey with ⟨_, hno, hat⟩ | ⟨e1, y, hm1, h3, _, hR, hat, _⟩
    · rcases hcase with ⟨e0, hm0, hk0, _⟩ | ⟨_, rfl⟩
      · exact absurd hk0 (hno e0 hm0)
      · refine ⟨[], by rw [hat]; rfl, World.ownsInts_nil _ _ _ _, Nat.zero_le _, fun x hx _ => ?_⟩
        cases x.val.ownBlock with
        | none => exact .inl rfl
        | some g => exact .inr (by simp [Value.ownBlock])
    · obtain ⟨zs, ho, rfl⟩ := rowElem_inv hR
      rcases hcase with ⟨e0, hm0, hk0, rfl⟩ | ⟨hno, _⟩
      · have ee : e0 = e1 := same_entry K F hm0 hm1 (hk0.trans h3.symm)
        subst ee
        exact ⟨zs, hat _, ho, hlen e0 hm0 zs ho, fun x hx hne => hap x hx e0 hm0 (by rw [hk0]; exact hne)⟩
      · exact absurd h3 (hno e1 hm1)
  obtain ⟨zs, hat, ho, hzl, hv⟩ := key1
  have ho1 : (setBlock w b (.map es1 clock1)).ownsInts base e q v0 zs := ho.kept hg1 (ne_b ho)
  refine ⟨v0, zs, st, _, hrun, hg1, hat, ho1, hzl, fun w2 v' zs' hg hown' hl' hloc => ?_⟩
  have hvb : some b ≠ v0.ownBlock := fun e1 => by
    rcases ne_b ho with h1 | h1
    · rw [h1] at e1; cases e1
    · exact h1 e1.symm
  have hb2 : w2.heap[b]? = some (.map es1 clock1) := (hg.block b (by simpa [setBlock] using hblt) hvb).trans hb1
  obtain ⟨es', clock', hst, hmu⟩ := hback w2 v' hb2
  have kept2 : ∀ x ∈ es.toList, x.key ≠ key → ∀ ys, w.ownsInts base e q x.val ys → w2.ownsInts base e q x.val ys := fun x hx hne ys hy => (hy.kept hg1 (ne_b hy)).kept hg (hv x hx hne)
  obtain ⟨es'', clock'', hrun2, F', hput, _, _, hwho⟩ := Maps.fit_store (R' := rowElem (H := H) w2 base e q) K ht hb F (Nat.lt_of_le_of_lt hs hn) (fun x hx hne z hz => by
    obtain ⟨ys, hy, rfl⟩ := rowElem_inv hz
    exact rowElem_mk (kept2 x hx hne ys hy)) hkey (rowElem_mk hown')
  rw [hmu] at hrun2
  have hoo := setBlock_inj hb (by simpa using hrun2)
  cases hoo
  have hg3 : w2.grownBy (setBlock w2 b (.map es' clock')) (some b) := set_grown hb2
  have same3 : ∀ {u : Value} {ys : List Int}, w2.ownsInts base e q u ys → (setBlock w2 b (.map es' clock')).ownsInts base e q u ys := fun ho => ho.kept hg3 (ne_b ho)
  obtain ⟨F2, hmap2, _⟩ := F'.stay (R' := rowElem (H := H) (setBlock w2 b (.map es' clock')) base e q) (fun x _ z hz => by
    obtain ⟨ys, hy, rfl⟩ := rowElem_inv hz
    exact rowElem_mk (same3 hy))
  have far : ∀ x ∈ es.toList, x.key ≠ key → x.val.ownBlock = none ∨ x.val.ownBlock ≠ v'.ownBlock := fun x hx hne => by
    rcases hloc with h1 | ⟨g, h1, h2⟩
    · rw [h1]
      exact hv x hx hne
    · cases hx' : x.val.ownBlock with
      | none => exact .inl rfl
      | some gx =>
        obtain ⟨ys, hy⟩ := owned x hx
        have h4 := (hy.1.lt gx hx').2
        refine .inr fun e1 => ?_
        rw [h1] at e1
        cases e1
        have : (setBlock w b (.map es1 clock1)).heap.size = w.heap.size := by simp [setBlock]
        omega
  refine ⟨_, hst, ⟨es', clock', heap_setBlock_same hb2 _, F2, ?_, ?_, hbb, ?_, ?_⟩, hg3⟩
  · have e1 : es'.size = ((es'.toList.map (rg P k (rowElem (H := H) w2 base e q))).foldr DataW.insert []).length := by rw [length_sorted]; simp
    rw [e1, hput]
    unfold putKey
    rw [length_insert]
    have e2 := List.length_filter_le (notKey kl) ((es.toList.map (rg P k (rowElem (H := H) w base e q))).foldr DataW.insert [])
    rw [length_sorted] at e2
    simp at e2
    omega
  · rw [hmap2, DataW.put_eq, hput]
  · intro x hx ys hy
    have hx2 : w2.ownsInts base e q x.val ys := by
      obtain ⟨y, hy2⟩ := F'.reads x hx
      obtain ⟨z, hz, _⟩ := rd_val hy2
      obtain ⟨ys', hy', _⟩ := rowElem_inv hz
      rw [hy.unique (same3 hy')]
      exact hy'
    rcases hwho x hx with ⟨hx0, hne⟩ | ⟨_, hval⟩
    · obtain ⟨ys0, hy0⟩ := owned x hx0
      have := hlen x hx0 ys0 hy0
      rw [hx2.unique (kept2 x hx0 hne ys0 hy0)]
      omega
    · rw [hval] at hx2
      rw [hx2.unique hown']
      exact hl'
  · intro x hx y hy hne
    rcases hwho x hx with ⟨hx0, hxk⟩ | ⟨hxk, hxv⟩
    · rcases hwho y hy with ⟨hy0, hyk⟩ | ⟨hyk, hyv⟩
      · exact hap x hx0 y hy0 hne
      · rw [hyv]
        exact far x hx0 hxk
    · rcases hwho y hy with ⟨hy0, hyk⟩ | ⟨hyk, hyv⟩
      · rw [hxv]
        cases hv' : v'.ownBlock with
        | none => exact .inl rfl
        | some g =>
          refine .inr fun e1 => ?_
          rcases far y hy0 hyk with h1 | h1
          · rw [h1] at e1; cases e1
          · exact h1 (by rw [hv', e1])
      · exact absurd (hxk.trans hyk.symm) hne
end
end Go.Proofs.YtebkhdhhajjhfaaGreat.Lt

/- Cells as keys of a map; which bricks are at which cell. -/
namespace Go.Proofs.YtebkhdhhajjhfaaGreat.Lt
open Go Go.RowKit Go.Maps
theorem cell_law : WideMaps.KeyLaw Tryz.prog 60 := deep_law (m := 2) (by omega) (by kernel_rfl) (by kernel_rfl) (by rw [Tryz.underlying60])
theorem cell_keyed : Keyed Tryz.prog 60 := Keyed.of_law cell_law
def kc (c : Ce) : Lit := .string (keyBytes [.int .i64 c.x, .int .i64 c.y, .int .i64 c.z])
theorem keyOf_kc (c : Ce) (hx : (Lit.int .i64 c.x).wf = true) (hy : (Lit.int .i64 c.y).wf = true) (hz : (Lit.int .i64 c.z).wf = true) : keyOf Tryz.prog 60 c.val = some (kc c) := by
  have hkt : Tryz.prog.keyType 60 = true := by kernel_rfl
  have hcs : Tryz.prog.cellsOf 60 = 3 := by kernel_rfl
  have hci : Tryz.prog.cellsOf 3 = 1 := by kernel_rfl
  obtain ⟨m, hm⟩ : ∃ m, Tryz.prog.types.size = m + 1 := ⟨Tryz.prog.types.size - 1, by have h : 0 < Tryz.prog.types.size := of_decide_eq_true (by kernel_rfl); omega⟩
  unfold keyOf
  simp only [Tryz.underlying60]
  rw [if_pos (by simp [hkt, Value.formed, Tryz.underlying60, hcs]), hm]
  unfold Program.keyLits
  simp only [Tryz.underlying60, Value.cells]
  rw [if_pos (by rw [hcs]; exact ⟨rfl, by simp⟩)]
  simp [hci, Program.keyLits, Tryz.underlying3, hx, hy, hz, kc]
end Go.Proofs.YtebkhdhhajjhfaaGreat.Lt

/- Which bricks are at which cell, and which pairs overlap: the two maps as they read. -/
namespace Go.Proofs.YtebkhdhhajjhfaaGreat.Lt
open Go Go.RowKit Go.Maps Go.ChangeShapes
open Go.WideElems (Fit rd rg pl rd_val rd_key rg_of)
/-- What a slice of numbers reads as, as a list. -/
def itemsD : DataW Unit → List Int
  | .slice ds _ => ds.map fun d => match d with
    | .lit (.int _ x) => x
    | _ => 0
  | _ => []
theorem items_row {w : World} {base e : Nat} {v : Value} {zs : List Int} (h : w.ownsInts base e .i64 v zs) : itemsD (rowDatum .i64 v zs) = zs := by
  rcases h.datum (H := Unit) with ⟨h1, rfl⟩ | h1
  · rw [h1]; rfl
  · rw [h1]
    simp only [itemsD, lits, List.map_map]
    conv => rhs; rw [← List.map_id zs]
    rfl
section
variable {H : Type} {P : Program} {w w' : World} {k e : TypeId} {q : IntKind} {base b n : Nat} {D : DataW H} {row : Option Nat}
theorem groups_isMap (h : w.ownsGroups P k base e q b n D) : IsMap D := by
  obtain ⟨es, clock, _, _, _, rfl, _⟩ := h
  exact ⟨_, rfl⟩
theorem groups_mono (h : w.ownsGroups P k base e q b n D) {m : Nat} (hm : n ≤ m) : w.ownsGroups P k base e q b m D := by
  obtain ⟨es, clock, hb, F, hs, hD, hbb, hlen, hap⟩ := h
  exact ⟨es, clock, hb, F, Nat.le_trans hs hm, hD, hbb, fun x hx zs hz => Nat.le_trans (hlen x hx zs hz) hm, hap⟩
/-- Growth elsewhere leaves it as it is. -/
theorem groups_kept (h : w.ownsGroups P k base e q b n D) (hg : w.grownBy w' row) (hb : some b ≠ row) (hr : ∀ v zs, w.ownsInts base e q v zs → v.ownBlock = none ∨ v.ownBlock ≠ row) : w'.ownsGroups P k base e q b n D := by
  obtain ⟨es, clock, hbk, F, hs, hD, hbb, hlen, hap⟩ := h
  have hblt : b < w.heap.size := (Array.getElem?_eq_some_iff.1 hbk).1
  have keep : ∀ {v : Value} {zs : List Int}, w.ownsInts base e q v zs → w'.ownsInts base e q v zs := fun ho => ho.kept hg (hr _ _ ho)
  have hst : ∀ x ∈ es.toList, ∀ z, rowElem (H := H) w base e q x.val = some z → rowElem w' base e q x.val = some z := fun x _ z hz => by
    obtain ⟨ys, hy, rfl⟩ := rowElem_inv hz
    exact rowElem_mk (keep hy)
  obtain ⟨F2, hmap, _⟩ := F.stay hst
  refine ⟨es, clock, (hg.block b hblt hb).trans hbk, F2, hs, by rw [hmap]; exact hD, hbb, fun x hx zs hz => ?_, hap⟩
  obtain ⟨y, hy⟩ := F.reads x hx
  obtain ⟨z, hz2, _⟩ := rd_val hy
  obtain ⟨ys, ho, _⟩ := rowElem_inv hz2
  rw [hz.unique (keep ho)]
  exact hlen x hx ys ho
theorem groups_ext (h : w.ownsGroups P k base e q b n D) (he : Ext w w') : w'.ownsGroups P k base e q b n D :=
  groups_kept h (row := none) ⟨he.os, he.tape, he.output, he.size, fun i hi _ => he.block i hi⟩ (by simp) (fun v zs ho => by
    cases hv : v.ownBlock with
    | none => exact .inl rfl
    | some g => exact .inr (by simp))
theorem ints_not_map {v : Value} {zs : List Int} (h : w.ownsInts base e q v zs) {r : Nat} {es : Array MapEntry} {clock : Nat} (hr : w.heap[r]? = some (.map es clock)) : v.ownBlock = none ∨ v.ownBlock ≠ some r := by
  rcases h.1.2 with ⟨rfl, _⟩ | ⟨g, cap, cur, rfl, _, hh, _⟩
  · exact .inl rfl
  · refine .inr fun e1 => ?_
    have : g = r := by simpa [Value.ownBlock] using e1
    subst this
    rw [hr] at hh
    cases hh
end
/-- The map from cells to bricks: f says which. -/
def InM (w0 w : World) (b base n : Nat) (f : Ce → Int → Prop) : Prop := ∃ D : DataW Unit, w.ownsGroups Tryz.prog 60 base 3 .i64 b n D ∧ (∀ c, nearP c (-5000) 5000 → ∀ x, x ∈ itemsD (D.atKey (kc c) .nil) ↔ f c x) ∧ Ext w0 w ∧ w0.heap.size ≤ b ∧ w0.heap.size ≤ base
theorem cell_wf {c : Ce} (h : nearP c (-5000) 5000) : (Lit.int .i64 c.x).wf = true ∧ (Lit.int .i64 c.y).wf = true ∧ (Lit.int .i64 c.z).wf = true := by
  obtain ⟨⟨h1, h2⟩, ⟨h3, h4⟩, h5, h6⟩ := h
  exact ⟨WalkArith.wf_i64 (by omega), WalkArith.wf_i64 (by omega), WalkArith.wf_i64 (by omega)⟩
theorem keyOf_near {c : Ce} (h : nearP c (-5000) 5000) : keyOf Tryz.prog 60 c.val = some (kc c) := keyOf_kc c (cell_wf h).1 (cell_wf h).2.1 (cell_wf h).2.2
theorem kc_inj {c d : Ce} (hc : nearP c (-5000) 5000) (hd : nearP d (-5000) 5000) (h : kc c = kc d) : c = d := by
  have h1 := keyOf_near hc
  have h2 := keyOf_near hd
  rw [h] at h1
  have h3 := cell_keyed.inj h1 h2
  obtain ⟨c1, c2, c3⟩ := c
  obtain ⟨d1, d2, d3⟩ := d
  simp only [Ce.val, Value.agg.injEq, Array.mk.injEq, List.cons.injEq, Value.int.injEq, true_and, and_true] at h3
  simp only [Ce.mk.injEq]
  exact h3
theorem zero_slice (u : World) : (zeroValue 26).run Tryz.prog u = .ok (.slice none 0 0) u := by kernel_rfl
section
variable {w0 w w' : World} {b base n : Nat} {f : Ce → Int → Prop} {row : Option Nat}
theorem InM.start (he : Ext w0 w) (hb : b = w.heap.size) : InM w0 (w.alloc (.map #[] 0)) b (b + 1) 0 (fun _ _ => False) := by
  subst hb
  exact ⟨_, World.ownsGroups_made w Tryz.prog _ _ _, fun c _ x => by simp [DataW.atKey, itemsD], he.alloc _, he.le, by have := he.le; omega⟩
theorem InM.mono (h : InM w0 w b base n f) {m : Nat} (hm : n ≤ m) : InM w0 w b base m f := by
  obtain ⟨D, h1, h2, h3, h4, h5⟩ := h
  exact ⟨D, groups_mono h1 hm, h2, h3, h4, h5⟩
theorem InM.congr (h : InM w0 w b base n f) {g : Ce → Int → Prop} (hfg : ∀ c, nearP c (-5000) 5000 → ∀ x, f c x ↔ g c x) : InM w0 w b base n g := by
  obtain ⟨D, h1, h2, h3, h4, h5⟩ := h
  exact ⟨D, h1, fun c hc x => (h2 c hc x).trans (hfg c hc x), h3, h4, h5⟩
theorem InM.later (h : InM w0 w b base n f) (he : Ext w w') : InM w0 w' b base n f := by
  obtain ⟨D, h1, h2, h3, h4, h5⟩ := h
  exact ⟨D, groups_ext h1 he, h2, h3.trans he, h4, h5⟩
theorem InM.ext (h : InM w0 w b base n f) : Ext w0 w := by
  obtain ⟨_, _, _, h3, _⟩ := h
  exact h3
/-- A store into another map. -/
theorem InM.beside (h : InM w0 w b base n f) {r : Nat} (hg : w.grownBy w' (some r)) (hr0 : w0.heap.size ≤ r) {es : Array MapEntry} {clock : Nat} (hr : w.heap[r]? = some (.map es clock)) (hne : b ≠ r) : InM w0 w' b base n f := by
  obtain ⟨D, h1, h2, h3, h4, h5⟩ := h
  exact ⟨D, groups_kept h1 hg (by simpa using hne) (fun v zs ho => ints_not_map ho hr), h2, h3.grown hg (fun k hk => by cases hk; exact hr0), h4, h5⟩
theorem InM.look {ops : Array Oper} {rest : List Oper} {o : Oper} {a : Act} {Q : Exit → Act → World → Prop} (hg : o.guard = none) (mo x : Operand) (hop : o.op = Op.lookup 171 mo x false)
    (hm : a.eval mo = .map (some b)) (h : InM w0 w b base n f) (hn : n < 1000000) (c : Ce) (hc : nearP c (-5000) 5000) (hx : a.eval x = c.val)
    (hK : ∀ (A : Option Addr) (zs : List Int) (cap : Nat), Own w0 w 3 1 (.slice A zs.length cap) zs.length (zs.map (Value.int .i64)) → zs.length ≤ n → (∀ x, x ∈ zs ↔ f c x) → wpList Tryz.prog ops Q rest (a.put o.dst (.slice A zs.length cap)) w) : wpList Tryz.prog ops Q (o :: rest) a w := by
  obtain ⟨D, h1, h2, h3, h4, h5⟩ := h
  refine wpList_lookup_groups w hg mo x 171 hop 60 26 3 .i64 cell_keyed Tryz.underlying171 (zero_slice w) base b n D hm h1 (by unfold maxLen; omega) _ (kc c) hx (keyOf_near hc) fun v zs hat hoi hzl _ => ?_
  have hown : Own w0 w 3 1 v zs.length (zs.map (Value.int .i64)) := by
    refine ⟨h3, hoi.1.1, ?_⟩
    rcases hoi.1.2 with h6 | ⟨g, cap, cur, e1, hge, r⟩
    · exact .inl h6
    · exact .inr ⟨g, cap, cur, e1, Nat.le_trans h5 hge, r⟩
  obtain ⟨A, cap, rfl⟩ := hown.form
  exact hK A zs cap hown hzl fun x => by rw [← h2 c hc x, hat, items_row hoi]
end
theorem arr2 : WideMaps.ArrKey Tryz.prog 173 3 2 := ⟨Tryz.underlying173, by kernel_rfl, by kernel_rfl, by kernel_rfl⟩
theorem Kpair : Keyed Tryz.prog 173 := Keyed.of_law arr2.law
def kp (p : Int × Int) : Lit := .string (keyBytes [.int .i64 p.1, .int .i64 p.2])
theorem keyOf_kp (p : Int × Int) (wa : (Lit.int .i64 p.1).wf = true) (wb : (Lit.int .i64 p.2).wf = true) : keyOf Tryz.prog 173 (.agg #[.int .i64 p.1, .int .i64 p.2]) = some (kp p) :=
  WideMaps.keyOf_pair arr2 Tryz.underlying3 ⟨Tryz.prog.types.size - 1, by have h : 0 < Tryz.prog.types.size := of_decide_eq_true (by kernel_rfl); omega⟩ wa wb
theorem wf_small {x : Int} (h1 : -1000000 ≤ x) (h2 : x ≤ 1000000) : (Lit.int .i64 x).wf = true := WalkArith.wf_i64 (by omega)
theorem size_pos {D : DataW Unit} {kl : Lit} (h : Maps.has D kl = true) : 0 < Maps.size D := by
  unfold Maps.has at h
  unfold Maps.size
  split at h
  · rename_i es
    cases es with
    | nil => simp at h
    | cons a t => simp
  · cases h
set_option maxRecDepth 100000 in
theorem pair_inv {key : Value} {kl : Lit} (h : keyOf Tryz.prog 173 key = some kl) : ∃ x : Int × Int, key = .agg #[.int .i64 x.1, .int .i64 x.2] := by
  have hcs : Tryz.prog.cellsOf 173 = 2 := by kernel_rfl
  have hci : Tryz.prog.cellsOf 3 = 1 := by kernel_rfl
  obtain ⟨m, hm⟩ : ∃ m, Tryz.prog.types.size = m + 1 := ⟨Tryz.prog.types.size - 1, by have h : 0 < Tryz.prog.types.size := of_decide_eq_true (by kernel_rfl); omega⟩
  unfold keyOf at h
  simp only [Tryz.underlying173] at h
  split at h
  · rename_i hc
    obtain ⟨ls, h1, _⟩ := Option.map_eq_some_iff.1 h
    simp only [Bool.and_eq_true] at hc
    have hf := hc.2
    rw [hm] at h1
    unfold Program.keyLits at h1
    simp only [Tryz.underlying173] at h1
    split at h1
    · rename_i hl
      rw [hcs] at hl
      obtain ⟨c0, c1, e⟩ : ∃ c0 c1, key.cells.toList = [c0, c1] := by
        match hx : key.cells.toList, hl with
        | [c0, c1], _ => exact ⟨c0, c1, rfl⟩
      rw [e, show List.range 2 = [0, 1] from rfl, List.mapM_cons, List.mapM_cons, List.mapM_nil] at h1
      simp only [hci, Option.map_eq_some_iff, bind, Option.bind_eq_some_iff, pure] at h1
      obtain ⟨_, ⟨y0, h2, _, ⟨y1, h3, _⟩, _⟩, _⟩ := h1
      simp only [Nat.zero_mul, List.drop_zero, List.take_succ_cons, List.take_zero, Nat.one_mul, List.drop_succ_cons] at h2 h3
      have key1 : ∀ {c : Value} {y : List Lit}, Tryz.prog.keyLits (m + 1) 3 [c] = some y → ∃ a, c = .int .i64 a := fun {c y} hy => by
        unfold Program.keyLits at hy
        simp only [Tryz.underlying3] at hy
        split at hy <;> simp_all
      obtain ⟨a, rfl⟩ := key1 h2
      obtain ⟨b, rfl⟩ := key1 h3
      unfold Value.formed at hf
      rw [Tryz.underlying173] at hf
      cases key <;> simp at hf
      rename_i cs
      refine ⟨(a, b), ?_⟩
      simp only [Value.cells] at e
      rw [← e]
    · cases h1
  · cases h
/-- The map of pairs: whether there is one. -/
def PrM (w0 w : World) (b n : Nat) (p : Prop) : Prop := ∃ D : DataW Unit, IsMap D ∧ w.ownsMap Tryz.prog 173 (plainElem Tryz.prog 4) b n D ∧ (0 < Maps.size D ↔ p) ∧ Ext w0 w ∧ w0.heap.size ≤ b
section
variable {w0 w w' : World} {b n : Nat} {p : Prop}
theorem PrM.start (he : Ext w0 w) (hb : b = w.heap.size) : PrM w0 (w.alloc (.map #[] 0)) b 0 False := by
  subst hb
  refine ⟨_, isMap_empty, World.ownsMap_made w Tryz.prog _ _, ?_, he.alloc _, he.le⟩
  simp [Maps.size]
theorem PrM.mono (h : PrM w0 w b n p) {m : Nat} (hm : n ≤ m) : PrM w0 w b m p := by
  obtain ⟨D, h1, h2, h3⟩ := h
  exact ⟨D, h1, h2.mono hm, h3⟩
theorem PrM.congr (h : PrM w0 w b n p) {q : Prop} (hpq : p ↔ q) : PrM w0 w b n q := by
  obtain ⟨D, h1, h2, h3, h4⟩ := h
  exact ⟨D, h1, h2, h3.trans hpq, h4⟩
theorem PrM.kept {row : Option Nat} (h : PrM w0 w b n p) (hg : w.grownBy w' row) (hx : Ext w0 w') (hne : some b ≠ row) : PrM w0 w' b n p := by
  obtain ⟨D, h1, h2, h3, h4, h5⟩ := h
  exact ⟨D, h1, h2.kept hg hne, h3, hx, h5⟩
theorem PrM.later (h : PrM w0 w b n p) (he : Ext w w') : PrM w0 w' b n p :=
  h.kept (row := none) ⟨he.os, he.tape, he.output, he.size, fun i hi _ => he.block i hi⟩ (by obtain ⟨_, _, _, _, h4, _⟩ := h; exact h4.trans he) (by simp)
theorem PrM.isMap (h : PrM w0 w b n p) : ∃ es clock, w.heap[b]? = some (.map es clock) := by
  obtain ⟨D, _, ⟨es, clock, hb, _⟩, _⟩ := h
  exact ⟨es, clock, hb⟩
end
/-- An entry that has been made: what is there, and the way back. -/
structure EntryIn (w0 w1 : World) (b base n : Nat) (f : Ce → Int → Prop) (c : Ce) (zs : List Int) (v : Value) (st : Nat) : Prop where
  own : w1.ownsInts base 3 .i64 v zs
  len : zs.length ≤ n
  mem : ∀ x, x ∈ zs ↔ f c x
  ext : Ext w0 w1
  b0 : w0.heap.size ≤ b
  base0 : w0.heap.size ≤ base
  near : nearP c (-5000) 5000
  back : ∃ D : DataW Unit, IsMap D ∧ (∀ c, nearP c (-5000) 5000 → ∀ x, x ∈ itemsD (D.atKey (kc c) .nil) ↔ f c x) ∧ EntryBack w1 Tryz.prog 171 60 base 3 .i64 b n D (kc c) v st
section
variable {w0 w w1 : World} {b base n : Nat} {f : Ce → Int → Prop} {c : Ce} {zs : List Int} {v : Value} {st : Nat}
theorem InM.entry {ops : Array Oper} {rest : List Oper} {o : Oper} {a : Act} {Q : Exit → Act → World → Prop} (hg : o.guard = none) (mo x : Operand) (hop : o.op = Op.mapEntry 171 mo x)
    (hm : a.eval mo = .map (some b)) (h : InM w0 w b base n f) (hn : n < 1000000) (c : Ce) (hc : nearP c (-5000) 5000) (hx : a.eval x = c.val)
    (hK : ∀ (A : Option Addr) (zs : List Int) (cap st : Nat) (w1 : World), w.grownBy w1 (some b) → EntryIn w0 w1 b base n f c zs (.slice A zs.length cap) st → wpList Tryz.prog ops Q rest (a.put o.dst (.tuple #[.slice A zs.length cap, goInt st])) w1) : wpList Tryz.prog ops Q (o :: rest) a w := by
  obtain ⟨D, h1, h2, h3, h4, h5⟩ := h
  obtain ⟨v, zs, st, w1, hrun, hg1, hat, hoi, hzl, hback⟩ := groups_entry h1 cell_law Tryz.underlying171 zero_slice (by unfold maxLen; omega) (keyOf_near hc)
  obtain ⟨A, cap, rfl⟩ : ∃ A cap, v = .slice A zs.length cap := by
    rcases hoi.1.2 with ⟨rfl, h6⟩ | ⟨g, cap, cur, rfl, _⟩
    · exact ⟨none, 0, by rw [h6]⟩
    · exact ⟨_, cap, rfl⟩
  refine wpList_plain hg fun K' hK' => ?_
  unfold Oper.wp
  simp [execOp, hop, hm, hx, hrun, Result.andThen]
  exact hK' _ _ (hK A zs cap st w1 hg1 ⟨hoi, hzl, fun x => by rw [← h2 c hc x, hat, items_row hoi], h3.grown hg1 (fun k hk => by cases hk; exact h4), h4, h5, hc, D, groups_isMap h1, h2, hback⟩)
theorem EntryIn.run (h : EntryIn w0 w1 b base n f c zs v st) {w2 : World} {v' : Value} {i : Int} (hgr : w1.grownBy w2 v.ownBlock) (hwi : (Lit.int .i64 i).wf = true)
    (hown : w2.ownsRow base 3 1 v' (zs.length + 1) (zs.map (Value.int .i64) ++ [.int .i64 i])) (hloc : v'.ownBlock = v.ownBlock ∨ v'.ownBlock = some w1.heap.size) :
    ∃ w3, (Instr.entryStore 171 (.map (some b)) (.int .i64 (st : Int)) v').run Tryz.prog w2 = .ok () w3 ∧ InM w0 w3 b base (n + 1) (fun c' x => f c' x ∨ c' = c ∧ x = i) ∧ w2.grownBy w3 (some b) := by
  obtain ⟨hoi, hzl, hmem, hext, hb0, hbase0, hnear, D, hD, hf, hback⟩ := h
  have hoi' := hoi.appended hown hwi
  obtain ⟨w3, hrun, hgs, hg3⟩ := hback w2 v' (zs ++ [i]) hgr hoi' (by simp; omega) (hloc.imp id fun h => ⟨_, h, Nat.le_refl _⟩)
  refine ⟨w3, hrun, ⟨_, hgs, fun c' hc' y => ?_, (hext.grown hgr (fun k hk => Nat.le_trans hbase0 (hoi.1.lt k hk).1)).grown hg3 (fun k hk => by cases hk; exact hb0), hb0, hbase0⟩, hg3⟩
  by_cases e : c' = c
  · subst e
    rw [atKey_put_same hD (cell_keyed.key (keyOf_near hnear)), items_row hoi']
    simp [hmem]
  · rw [atKey_put_other (fun h => e (kc_inj hc' hnear h)), hf c' hc' y]
    simp [e]
theorem PrM.store {ops : Array Oper} {rest : List Oper} {o : Oper} {a : Act} {Q : Exit → Act → World → Prop} {p : Prop} (hg : o.guard = none) (mo x y : Operand) (hop : o.op = Op.mapUpdate 172 mo x y)
    (hm : a.eval mo = .map (some b)) (h : PrM w0 w b n p) (hn : n ≤ 100000000) (i k : Int) (h1 : -1000 ≤ i ∧ i ≤ 1000) (h2 : -1000 ≤ k ∧ k ≤ 1000) (hx : a.eval x = .agg #[.int .i64 i, .int .i64 k]) (hy : a.eval y = .bool true)
    (hK : ∀ w', PrM w0 w' b (n + 1) True → w.grownBy w' (some b) → wpList Tryz.prog ops Q rest (a.put o.dst undef) w') : wpList Tryz.prog ops Q (o :: rest) a w := by
  obtain ⟨D, g1, g2, _, g4, g5⟩ := h
  have hkey := keyOf_kp (i, k) (wf_small (by omega) (by omega)) (wf_small (by omega) (by omega))
  refine wpList_mapUpdate_own w hg mo x y 172 hop 173 4 Kpair Tryz.underlying172 _ b n D hm g2 (by unfold maxLen; omega) _ _ (kp (i, k)) hx hy hkey _ [] (plainElem_bool Tryz.underlying4 true) fun w' h5 h6 => ?_
  refine hK w' ⟨_, g1.put _ _, h5, ⟨fun _ => trivial, fun _ => size_pos (has_put_same g1 (Kpair.key hkey) _)⟩, g4.grown h6 (fun j hj => by cases hj; exact g5), g5⟩ h6
end
end Go.Proofs.YtebkhdhhajjhfaaGreat.Lt

/- The sort's contract, laid at the sorts of cells and of pairs. -/
namespace Go.Proofs.YtebkhdhhajjhfaaGreat.Lt
open Go.Shelf Go.Proofs
def sortCellsL_ren : Go.Shelf.Ren := ⟨fun | 6 => 104 | 15 => 108 | 14 => 144 | 28 => 155 | 29 => 156 | 20 => 168 | 21 => 169 | 22 => 170 | 23 => 171 | 24 => 172 | 25 => 173 | 26 => 174 | 27 => 175 | 46 => 200 | 47 => 179 | 48 => 180 | 49 => 201 | 50 => 202 | 57 => 210 | n => n, fun | 22 => 79 | 24 => 60 | 25 => 216 | 3 => 3 | 39 => 220 | 0 => 0 | 53 => 268 | 55 => 89 | 4 => 4 | 46 => 262 | 45 => 261 | 50 => 126 | 5 => 5 | 9 => 9 | 66 => 290 | 70 => 294 | 76 => 309 | 77 => 310 | n => n, fun | n => n⟩
theorem sortCellsL : Go.Proofs.SlLaysF0.n6 Tryz.prog sortCellsL_ren := {
  mixed := by kernel_rfl
  f6 := ⟨Tryz.f104.name, by decide, Tryz.func104.trans (congrArg some (by kernel_rfl))⟩
  f14 := ⟨Tryz.f144.name, by decide, Tryz.func144.trans (congrArg some (by kernel_rfl))⟩
  f15 := Tryz.func108.trans (congrArg some (by kernel_rfl))
  f20 := ⟨Tryz.f168.name, by decide, Tryz.func168.trans (congrArg some (by kernel_rfl))⟩
  f21 := ⟨Tryz.f169.name, by decide, Tryz.func169.trans (congrArg some (by kernel_rfl))⟩
  f22 := ⟨Tryz.f170.name, by decide, Tryz.func170.trans (congrArg some (by kernel_rfl))⟩
  f23 := ⟨Tryz.f171.name, by decide, Tryz.func171.trans (congrArg some (by kernel_rfl))⟩
  f24 := ⟨Tryz.f172.name, by decide, Tryz.func172.trans (congrArg some (by kernel_rfl))⟩
  f25 := ⟨Tryz.f173.name, by decide, Tryz.func173.trans (congrArg some (by kernel_rfl))⟩
  f26 := ⟨Tryz.f174.name, by decide, Tryz.func174.trans (congrArg some (by kernel_rfl))⟩
  f27 := ⟨Tryz.f175.name, by decide, Tryz.func175.trans (congrArg some (by kernel_rfl))⟩
  f28 := Tryz.func155.trans (congrArg some (by kernel_rfl))
  f29 := Tryz.func156.trans (congrArg some (by kernel_rfl))
  f46 := ⟨Tryz.f200.name, by decide, Tryz.func200.trans (congrArg some (by kernel_rfl))⟩
  f47 := Tryz.func179.trans (congrArg some (by kernel_rfl))
  f48 := Tryz.func180.trans (congrArg some (by kernel_rfl))
  f49 := ⟨Tryz.f201.name, by decide, Tryz.func201.trans (congrArg some (by kernel_rfl))⟩
  f50 := ⟨Tryz.f202.name, by decide, Tryz.func202.trans (congrArg some (by kernel_rfl))⟩
  f57 := ⟨Tryz.f210.name, by decide, Tryz.func210.trans (congrArg some (by kernel_rfl))⟩
  t0 := Tryz.underlying0
  a0 := Tryz.isAgg0
  z0 := Tryz.sizeOf0
  v0 := Tryz.zeroValue0
  t3 := Tryz.underlying3
  a3 := Tryz.isAgg3
  z3 := Tryz.sizeOf3
  v3 := Tryz.zeroValue3
  t4 := Tryz.underlying4
  a4 := Tryz.isAgg4
  z4 := Tryz.sizeOf4
  v4 := Tryz.zeroValue4
  t5 := Tryz.underlying5
  a5 := Tryz.isAgg5
  z5 := Tryz.sizeOf5
  v5 := Tryz.zeroValue5
  t9 := Tryz.underlying9
  a9 := Tryz.isAgg9
  z9 := Tryz.sizeOf9
  v9 := Tryz.zeroValue9
  t22 := Tryz.underlying79
  a22 := Tryz.isAgg79
  z22 := Tryz.sizeOf79
  v22 := Tryz.zeroValue79
  t25 := Tryz.underlying216
  a25 := Tryz.isAgg216
  z25 := Tryz.sizeOf216
  v25 := Tryz.zeroValue216
  t39 := Tryz.underlying220
  a39 := Tryz.isAgg220
  z39 := Tryz.sizeOf220
  v39 := Tryz.zeroValue220
  t45 := Tryz.underlying261
  a45 := Tryz.isAgg261
  z45 := Tryz.sizeOf261
  v45 := Tryz.zeroValue261
  t46 := Tryz.underlying262
  a46 := Tryz.isAgg262
  z46 := Tryz.sizeOf262
  v46 := Tryz.zeroValue262
  t50 := Tryz.underlying126
  a50 := Tryz.isAgg126
  z50 := Tryz.sizeOf126
  v50 := Tryz.zeroValue126
  t53 := Tryz.underlying268
  a53 := Tryz.isAgg268
  z53 := Tryz.sizeOf268
  v53 := Tryz.zeroValue268
  t55 := Tryz.underlying89
  a55 := Tryz.isAgg89
  z55 := Tryz.sizeOf89
  v55 := Tryz.zeroValue89
  t66 := Tryz.underlying290
  a66 := Tryz.isAgg290
  z66 := Tryz.sizeOf290
  v66 := Tryz.zeroValue290
  t70 := Tryz.underlying294
  a70 := Tryz.isAgg294
  z70 := Tryz.sizeOf294
  v70 := Tryz.zeroValue294
  t76 := Tryz.underlying309
  a76 := Tryz.isAgg309
  z76 := Tryz.sizeOf309
  v76 := Tryz.zeroValue309
  t77 := Tryz.underlying310
  a77 := Tryz.isAgg310
  z77 := Tryz.sizeOf310
  v77 := Tryz.zeroValue310 }
def sortPairsL_ren : Go.Shelf.Ren := ⟨fun | 6 => 74 | 15 => 108 | 14 => 107 | 28 => 155 | 29 => 156 | 20 => 147 | 21 => 148 | 22 => 149 | 23 => 150 | 24 => 151 | 25 => 152 | 26 => 153 | 27 => 154 | 46 => 178 | 47 => 179 | 48 => 180 | 49 => 181 | 50 => 182 | 57 => 203 | n => n, fun | 22 => 106 | 24 => 173 | 25 => 176 | 3 => 3 | 39 => 220 | 0 => 0 | 53 => 268 | 55 => 89 | 4 => 4 | 46 => 262 | 45 => 261 | 50 => 126 | 5 => 5 | 9 => 9 | 66 => 290 | 70 => 294 | 76 => 309 | 77 => 310 | n => n, fun | n => n⟩
theorem sortPairsL : Go.Proofs.SlLaysF0.n6 Tryz.prog sortPairsL_ren := {
  mixed := by kernel_rfl
  f6 := ⟨Tryz.f74.name, by decide, Tryz.func74.trans (congrArg some (by kernel_rfl))⟩
  f14 := ⟨Tryz.f107.name, by decide, Tryz.func107.trans (congrArg some (by kernel_rfl))⟩
  f15 := Tryz.func108.trans (congrArg some (by kernel_rfl))
  f20 := ⟨Tryz.f147.name, by decide, Tryz.func147.trans (congrArg some (by kernel_rfl))⟩
  f21 := ⟨Tryz.f148.name, by decide, Tryz.func148.trans (congrArg some (by kernel_rfl))⟩
  f22 := ⟨Tryz.f149.name, by decide, Tryz.func149.trans (congrArg some (by kernel_rfl))⟩
  f23 := ⟨Tryz.f150.name, by decide, Tryz.func150.trans (congrArg some (by kernel_rfl))⟩
  f24 := ⟨Tryz.f151.name, by decide, Tryz.func151.trans (congrArg some (by kernel_rfl))⟩
  f25 := ⟨Tryz.f152.name, by decide, Tryz.func152.trans (congrArg some (by kernel_rfl))⟩
  f26 := ⟨Tryz.f153.name, by decide, Tryz.func153.trans (congrArg some (by kernel_rfl))⟩
  f27 := ⟨Tryz.f154.name, by decide, Tryz.func154.trans (congrArg some (by kernel_rfl))⟩
  f28 := Tryz.func155.trans (congrArg some (by kernel_rfl))
  f29 := Tryz.func156.trans (congrArg some (by kernel_rfl))
  f46 := ⟨Tryz.f178.name, by decide, Tryz.func178.trans (congrArg some (by kernel_rfl))⟩
  f47 := Tryz.func179.trans (congrArg some (by kernel_rfl))
  f48 := Tryz.func180.trans (congrArg some (by kernel_rfl))
  f49 := ⟨Tryz.f181.name, by decide, Tryz.func181.trans (congrArg some (by kernel_rfl))⟩
  f50 := ⟨Tryz.f182.name, by decide, Tryz.func182.trans (congrArg some (by kernel_rfl))⟩
  f57 := ⟨Tryz.f203.name, by decide, Tryz.func203.trans (congrArg some (by kernel_rfl))⟩
  t0 := Tryz.underlying0
  a0 := Tryz.isAgg0
  z0 := Tryz.sizeOf0
  v0 := Tryz.zeroValue0
  t3 := Tryz.underlying3
  a3 := Tryz.isAgg3
  z3 := Tryz.sizeOf3
  v3 := Tryz.zeroValue3
  t4 := Tryz.underlying4
  a4 := Tryz.isAgg4
  z4 := Tryz.sizeOf4
  v4 := Tryz.zeroValue4
  t5 := Tryz.underlying5
  a5 := Tryz.isAgg5
  z5 := Tryz.sizeOf5
  v5 := Tryz.zeroValue5
  t9 := Tryz.underlying9
  a9 := Tryz.isAgg9
  z9 := Tryz.sizeOf9
  v9 := Tryz.zeroValue9
  t22 := Tryz.underlying106
  a22 := Tryz.isAgg106
  z22 := Tryz.sizeOf106
  v22 := Tryz.zeroValue106
  t25 := Tryz.underlying176
  a25 := Tryz.isAgg176
  z25 := Tryz.sizeOf176
  v25 := Tryz.zeroValue176
  t39 := Tryz.underlying220
  a39 := Tryz.isAgg220
  z39 := Tryz.sizeOf220
  v39 := Tryz.zeroValue220
  t45 := Tryz.underlying261
  a45 := Tryz.isAgg261
  z45 := Tryz.sizeOf261
  v45 := Tryz.zeroValue261
  t46 := Tryz.underlying262
  a46 := Tryz.isAgg262
  z46 := Tryz.sizeOf262
  v46 := Tryz.zeroValue262
  t50 := Tryz.underlying126
  a50 := Tryz.isAgg126
  z50 := Tryz.sizeOf126
  v50 := Tryz.zeroValue126
  t53 := Tryz.underlying268
  a53 := Tryz.isAgg268
  z53 := Tryz.sizeOf268
  v53 := Tryz.zeroValue268
  t55 := Tryz.underlying89
  a55 := Tryz.isAgg89
  z55 := Tryz.sizeOf89
  v55 := Tryz.zeroValue89
  t66 := Tryz.underlying290
  a66 := Tryz.isAgg290
  z66 := Tryz.sizeOf290
  v66 := Tryz.zeroValue290
  t70 := Tryz.underlying294
  a70 := Tryz.isAgg294
  z70 := Tryz.sizeOf294
  v70 := Tryz.zeroValue294
  t76 := Tryz.underlying309
  a76 := Tryz.isAgg309
  z76 := Tryz.sizeOf309
  v76 := Tryz.zeroValue309
  t77 := Tryz.underlying310
  a77 := Tryz.isAgg310
  z77 := Tryz.sizeOf310
  v77 := Tryz.zeroValue310 }
end Go.Proofs.YtebkhdhhajjhfaaGreat.Lt

/- The call's own row, sorted: it holds what the sort leaves. -/
namespace Go.Proofs.YtebkhdhhajjhfaaGreat.Lt
open Go.Shelf Go.RowKit Go.Lib Go.Sort
section
variable {α : Type} [Inhabited α] {enc : α → List Value} {k : Nat}
theorem flat_list (hk : ∀ x, (enc x).length = k) (d : Array α) : (flatK enc k d).toList = (d.toList.map enc).flatten := by
  have hl : (d.toList.map enc).flatten.length = d.size * k := by
    rw [flatten_len k _ (by simp [hk]), List.length_map, Array.length_toList]
  apply List.ext_getElem?
  intro t
  by_cases ht : t < d.size * k
  · have hk0 : 0 < k := Nat.pos_of_ne_zero fun h => by subst h; simp at ht
    have hq : t / k < d.size := (Nat.div_lt_iff_lt_mul hk0).2 ht
    have hr := Nat.mod_lt t hk0
    have e : t / k * k + t % k = t := Nat.div_add_mod' t k
    have h := flatten_get k (d.toList.map enc) (by simp [hk]) (t / k) (t % k) hr (by simpa using hq)
    rw [e] at h
    have hs : t < (flatK enc k d).size := by simpa using ht
    rw [h, Array.getElem?_toList, Array.getElem?_eq_getElem hs, ← getElem!_pos (flatK enc k d) t hs, get_flatK enc k d t ht, getElem!_pos d (t / k) hq, List.getElem_map, Array.getElem_toList]
    have hlen : t % k < (enc d[t / k]).length := by rw [hk]; exact hr
    rw [List.getElem?_eq_getElem hlen, getElem!_pos (enc d[t / k]) (t % k) hlen]
  · rw [List.getElem?_eq_none (by simpa using ht), List.getElem?_eq_none (by rw [hl]; omega)]
theorem own_holds {w0 w : World} {e g n cap : Nat} {d : Array α} (hk : ∀ x, (enc x).length = k) (h : Own w0 w e k (.slice (some ⟨g, 0, none⟩) n cap) n (d.toList.map enc).flatten) : HoldsK enc k w g 0 d := fun j hj => by
  have hl : j < ((d.toList.map enc).flatten).length := by rw [← flat_list hk]; simpa using hj
  rw [Nat.zero_add]
  refine ⟨(h.cell hl).trans ?_, h.free j⟩
  rw [List.getElem?_eq_getElem hl]
  congr 1
  have : (flatK enc k d)[j]! = (flatK enc k d).toList[j]'(by simpa using hj) := by rw [getElem!_pos _ j hj, Array.getElem_toList]
  rw [id, this]
  simp only [flat_list hk]
theorem own_sorted {w0 w : World} {e g n cap m : Nat} {xs : List Value} {d : Array α} {os : Array Obj} (hk : ∀ x, (enc x).length = k) (h : Own w0 w e k (.slice (some ⟨g, 0, none⟩) n cap) n xs) (hd : d.size = n) : Own w0 (sortWorldK enc k w g 0 m d os) e k (.slice (some ⟨g, 0, none⟩) n cap) n (d.toList.map enc).flatten := by
  have hge : w0.heap.size ≤ g := h.ge
  rcases h.2.2 with ⟨h1, _⟩ | ⟨g', cap', cur, e1, hb, hh, hn, hm, hs, _⟩
  · cases h1
  cases e1
  have hlt : g < w.heap.size := (Array.getElem?_eq_some_iff.1 hh).1
  have hP : (putRowK enc k (Sort.ahead w m) g 0 d).heap[g]? = some (.cells (putCells id 0 (flatK enc k d) cur) e (0, 0)) := by
    unfold putRowK putRow mapBlock
    show (w.heap.modify g _)[g]? = _
    rw [Array.getElem?_modify, if_pos rfl, hh]
    rfl
  have hg : w.grownBy (putRowK enc k (Sort.ahead w m) g 0 d) (some g) := by
    refine ⟨rfl, rfl, rfl, ?_, fun i hi hne => ?_⟩
    · show w.heap.size ≤ (w.heap.modify g _).size
      simp
    · show (w.heap.modify g _)[i]? = _
      rw [Array.getElem?_modify, if_neg (fun h => hne (by rw [h]))]
  have hx : Ext w0 (putRowK enc k (Sort.ahead w m) g 0 d) := h.1.grown hg (fun j hj => by cases hj; exact hge)
  have hsz : (flatK enc k d).size = n * k := by rw [size_flatK, hd]
  refine Own.later (w := putRowK enc k (Sort.ahead w m) g 0 d) ⟨hx, ?_, .inr ⟨g, cap, _, rfl, hb, hP, hn, hm, ?_, ?_⟩⟩ (Grown.ext ⟨0, os, rfl⟩)
  · rw [← flat_list hk, Array.length_toList, hsz]
  · simp [putCells, hs]
  · rw [← flat_list hk]
    apply List.ext_getElem?
    intro t
    by_cases ht : t < n * k
    · have hc : t < cur.size := by rw [hs]; exact Nat.lt_of_lt_of_le ht (Nat.mul_le_mul_right _ hn)
      have hF : t < (flatK enc k d).size := by rw [hsz]; exact ht
      have e2 : (putCells id 0 (flatK enc k d) cur)[t]? = some (flatK enc k d)[t]! := by
        unfold putCells
        rw [Array.getElem?_mapIdx, Array.getElem?_eq_getElem hc, Option.map_some, if_pos ⟨Nat.zero_le _, by rw [Nat.zero_add]; exact hF⟩, Nat.sub_zero]
        rfl
      rw [List.getElem?_take_of_lt ht, Array.getElem?_toList, Array.getElem?_toList, e2, Array.getElem?_eq_getElem hF, getElem!_pos (flatK enc k d) t hF]
    · rw [List.getElem?_eq_none (by rw [List.length_take]; omega), List.getElem?_eq_none (by rw [Array.length_toList, hsz]; omega)]
end
theorem swo_ord : SWO (ltOf ordC) where
  irrefl x := by
    unfold ltOf
    exact decide_eq_false fun h => befC_irrefl x (ordC_neg.1 h)
  trans x y z h1 h2 := by
    unfold ltOf at *
    exact decide_eq_true (ordC_neg.2 (befC_trans (ordC_neg.1 (of_decide_eq_true h1)) (ordC_neg.1 (of_decide_eq_true h2))))
  ntrans x y z h1 h2 := by
    unfold ltOf at *
    have h1 : ¬ befC x y := fun h => of_decide_eq_false h1 (ordC_neg.2 h)
    have h2 : ¬ befC y z := fun h => of_decide_eq_false h2 (ordC_neg.2 h)
    refine decide_eq_false fun h => ?_
    have h := ordC_neg.1 h
    unfold befC at *
    omega
end Go.Proofs.YtebkhdhhajjhfaaGreat.Lt
