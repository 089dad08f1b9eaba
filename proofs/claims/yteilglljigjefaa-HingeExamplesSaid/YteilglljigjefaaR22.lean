/- Which proofs are right: no line. -/
import Derived.Test.YteilglljigjefaaR19
import Derived.Test.YteilglljigjefaaR20
import Derived.Test.YteilglljigjefaaR21
namespace Go.Proofs.Yteilglljigjefaa
open Go.RowKit
set_option maxRecDepth 100000 in
set_option maxHeartbeats 16000000 in
theorem right_none (rA rB rC rE : Int) (I : Option Addr) (q ic : Nat) (A : Option Addr) (n ca : Nat) (B : Option Addr) (m cb : Nat) (w : World) (hn : n ≤ 8) (hm : m ≤ 8)
    (hbad : ¬ ((rA = 0 ∧ rB = 0 ∧ rC = 0 ∧ rE = 0) ∧ q = n + m)) :
    Calls Try.prog 76 #[.agg #[.bool false, vint rA, vint rB, vint rC, vint rE, .slice I q ic], .slice A n ca, .slice B m cb] w fun en w' => en = .returned (.bool false) ∧ Ext w w' := by
  have hx0 : Ext w (w.alloc (.cells #[.bool false, vint rA, vint rB, vint rC, vint rE, .slice I q ic] 67)) := (Ext.refl _).alloc _
  by_cases c0 : rA = 0
  · subst c0
    by_cases c1 : rB = 0
    · subst c1
      by_cases c2 : rC = 0
      · subst c2
        by_cases c3 : rE = 0
        · subst c3
          have d5 : ((q : Int) != (n : Int) + (m : Int)) = true := by
            have : ¬ q = n + m := fun h => hbad ⟨⟨rfl, rfl, rfl, rfl⟩, h⟩
            simp; omega
          clear hbad
          go_enter Try.func76, Try.ntmps76
          go_wp2
          go_ret
          exact ⟨rfl, hx0⟩
        · have d4 : (rE != 0) = true := by simpa using c3
          clear hbad
          go_enter Try.func76, Try.ntmps76
          go_wp2
          go_ret
          exact ⟨rfl, hx0⟩
      · have d3 : (rC != 0) = true := by simpa using c2
        clear hbad
        go_enter Try.func76, Try.ntmps76
        go_wp2
        go_ret
        exact ⟨rfl, hx0⟩
    · have d2 : (rB != 0) = true := by simpa using c1
      clear hbad
      go_enter Try.func76, Try.ntmps76
      go_wp2
      go_ret
      exact ⟨rfl, hx0⟩
  · have d1 : (rA != 0) = true := by simpa using c0
    clear hbad
    go_enter Try.func76, Try.ntmps76
    go_wp2
    go_ret
    exact ⟨rfl, hx0⟩
end Go.Proofs.Yteilglljigjefaa

/- Which proofs are right: corners inside. -/
namespace Go.Proofs.Yteilglljigjefaa
open Go.RowKit
theorem ints_drop {w : World} {ad : Addr} {xs : List Int} (h : Ints w (some ad) xs) (n : Nat) : Ints w (some (ad.add n)) (xs.drop n) := fun k hk => by
  rw [List.map_drop, List.length_drop] at hk
  obtain ⟨ad', e, hc⟩ := h (n + k) (by omega)
  cases e
  refine ⟨_, rfl, ?_⟩
  rw [Go.Deep.add_add, hc]
  simp
theorem ints_take {w : World} {A : Option Addr} {xs : List Int} (h : Ints w A xs) (n : Nat) : Ints w A (xs.take n) := fun k hk => by
  rw [List.map_take, List.length_take] at hk
  obtain ⟨ad, e, hc⟩ := h k (by omega)
  refine ⟨ad, e, ?_⟩
  rw [hc, List.map_take, List.getElem?_take_of_lt (by omega)]
theorem insP_iff {r : Apr} {a b : List Cn} (h0 : r.A = 0 ∧ r.B = 0 ∧ r.C = 0 ∧ r.E = 0) (hl : r.ins.length = a.length + b.length) : insP r a b ↔ leftP a b (r.ins.take a.length) ∧ leftP b a (r.ins.drop a.length) := by
  have e1 : ∀ n, n < a.length → getI (r.ins.take a.length) n = r.ins.getD n 0 := fun n hn => by simp [getI, List.getD, List.getElem?_take_of_lt hn]
  have e2 : ∀ n, getI (r.ins.drop a.length) n = r.ins.getD (a.length + n) 0 := fun n => by simp [getI, List.getD]
  have l1 : (r.ins.take a.length).length = a.length := by rw [List.length_take]; omega
  have l2 : (r.ins.drop a.length).length = b.length := by rw [List.length_drop]; omega
  unfold insP leftP
  rw [l1, l2]
  constructor
  · rintro ⟨_, _, h1, h2⟩
    exact ⟨fun j hj => by rw [e1 j hj]; exact h1 j hj, fun j hj => by rw [e2]; exact h2 j hj⟩
  · rintro ⟨h1, h2⟩
    exact ⟨h0, hl, fun j hj => by rw [← e1 j hj]; exact h1 j hj, fun j hj => by rw [← e2]; exact h2 j hj⟩
set_option maxRecDepth 100000 in
set_option maxHeartbeats 8000000 in
theorem right_left (ad : Addr) (ic : Nat) (ins : List Int) (A : Option Addr) (ca : Nat) (a : List Cn) (B : Option Addr) (cb : Nat) (b : List Cn) (w : World) (hlA : CRow w A a) (hlB : CRow w B b) (hc : CnsOk a) (ho : CnsOk b) (hI : Ints w (some ad) ins) (hl : ins.length = a.length + b.length) (hic : ins.length ≤ ic) :
    Calls Try.prog 76 #[.agg #[.bool false, .int .i64 0, .int .i64 0, .int .i64 0, .int .i64 0, .slice (some ad) ins.length ic], .slice A a.length ca, .slice B b.length cb] w fun en w' => en = .returned (.bool (leftB a b (ins.take a.length) && leftB b a (ins.drop a.length))) ∧ Ext w w' := by
  have h1 := fun (x : Nat) (X : Addr) (hX : X = ad) w' (he : Ext w w') => left4_any A ca a B cb b (some X) x (ins.take a.length) w' (hlA.ext he) (hlB.ext he) (by rw [hX]; exact (ints_take hI _).ext he) hc ho (by rw [List.length_take]; omega)
  have h2 := fun (x : Nat) w' (he : Ext w w') => left4_any B cb b A ca a (some (ad.add a.length)) x (ins.drop a.length) w' (hlB.ext he) (hlA.ext he) ((ints_drop hI _).ext he) ho hc (by rw [List.length_drop]; omega)
  rw [show (ins.take a.length).length = a.length by rw [List.length_take]; omega] at h1
  rw [show (ins.drop a.length).length = b.length by rw [List.length_drop]; omega] at h2
  have hn3 := hc.len
  have hm3 := ho.len
  rw [hl] at hic ⊢
  have H1 := Lib.hid h1
  have H2 := Lib.hid h2
  clear h1 h2 hI hl hlA hlB hc ho
  generalize leftB a b (ins.take a.length) = L1 at *
  generalize leftB b a (ins.drop a.length) = L2 at *
  generalize a.length = n at *
  generalize b.length = m at *
  have d5 : (((n + m : Nat) : Int) != (n : Int) + (m : Int)) = false := by simp
  have c1 : (n : Int) ≤ (ic : Int) := by omega
  have c2 : (n : Int) ≤ ((n + m : Nat) : Int) := by omega
  have c3 : ¬ ic = n := by omega
  have kb : Blk (w.alloc (.cells #[.bool false, .int .i64 0, .int .i64 0, .int .i64 0, .int .i64 0, .slice (some ad) (n + m) ic] 67)) w.heap.size [.bool false, .int .i64 0, .int .i64 0, .int .i64 0, .int .i64 0, .slice (some ad) (n + m) ic] := Blk.new _ _
  have hx0 : Ext w (w.alloc (.cells #[.bool false, .int .i64 0, .int .i64 0, .int .i64 0, .int .i64 0, .slice (some ad) (n + m) ic] 67)) := (Ext.refl _).alloc _
  have b5 := kb.at_ 5 rfl
  have Hx0 := Lib.hid hx0
  clear kb hx0
  cases L1
  all_goals
    go_enter Try.func76, Try.ntmps76
    go_wp2_with (first
      | (go_at_call 100; ((with_reducible refine (H1.out _ _ rfl _ Hx0.out).mono ?_); rintro e w5 ⟨rfl, hx5⟩))
      | (go_at_call 100; ((with_reducible refine (H2.out _ _ (Hx0.out.trans hx5)).mono ?_); rintro e w6 ⟨rfl, hx6⟩)))
    go_ret
    first
      | exact ⟨ret_b (by simp), (Hx0.out.trans hx5).trans hx6⟩
      | exact ⟨ret_b (by simp), Hx0.out.trans hx5⟩
end Go.Proofs.Yteilglljigjefaa

/- Which proofs are right: by the code. -/
namespace Go.Proofs.Yteilglljigjefaa
open Go.RowKit
/-- A proof in memory. -/
structure AprIn (w : World) (r : Apr) (I : Option Addr) (ic : Nat) : Prop where
  ins : Ints w I r.ins
  cap : r.ins.length ≤ ic
  len : r.ins.length ≤ 9223372036854775807
theorem AprIn.ext {w w' : World} {r : Apr} {I : Option Addr} {ic : Nat} (h : AprIn w r I ic) (he : Ext w w') : AprIn w' r I ic := ⟨h.ins.ext he, h.cap, h.len⟩
theorem ovr_pos {r : Apr} {c : Cn} : 0 < ovr r.A r.B r.C r.E c ↔ r.C * c.d < lineN r c := cmpI_pos
theorem ovr_neg {r : Apr} {c : Cn} : ovr r.A r.B r.C r.E c < 0 ↔ lineN r c < r.C * c.d := cmpI_neg
theorem right_any (r : Apr) (I : Option Addr) (ic : Nat) (A : Option Addr) (ca : Nat) (a : List Cn) (B : Option Addr) (cb : Nat) (b : List Cn) (w : World) (hr : AprIn w r I ic) (hA : CRow w A a) (hB : CRow w B b) (hc : CnsOk a) (ho : CnsOk b) :
    Calls Try.prog 76 #[r.val I ic, .slice A a.length ca, .slice B b.length cb] w fun en w' => en = .returned (.bool (rightB r a b)) ∧ Ext w w' := by
  obtain ⟨rc, rA, rB, rC, rE, ins⟩ := r
  cases rc
  · rw [rightB_ins rfl]
    by_cases h : (rA = 0 ∧ rB = 0 ∧ rC = 0 ∧ rE = 0) ∧ ins.length = a.length + b.length
    · obtain ⟨h0, hl⟩ := h
      obtain ⟨rfl, rfl, rfl, rfl⟩ := id h0
      have hi := hr.ins
      obtain ⟨ad, rfl, _⟩ := hi 0 (by have := hc.len; simp only [List.length_map]; omega)
      have key := right_left ad ic ins A ca a B cb b w hA hB hc ho hi hl hr.cap
      have e : decide (insP ⟨false, 0, 0, 0, 0, ins⟩ a b) = (leftB a b (ins.take a.length) && leftB b a (ins.drop a.length)) := by
        rw [Bool.eq_iff_iff, decide_eq_true_iff, insP_iff ⟨rfl, rfl, rfl, rfl⟩ hl, Bool.and_eq_true]
        unfold leftB
        rw [decide_eq_true_iff, decide_eq_true_iff]
      rw [e]
      exact key
    · have key := right_none rA rB rC rE I ins.length ic A a.length ca B b.length cb w hc.len.2 ho.len.2 h
      rw [show decide (insP ⟨false, rA, rB, rC, rE, ins⟩ a b) = false from decide_eq_false fun h' => h ⟨h'.1, h'.2.1⟩]
      exact key
  · rw [rightB_clear rfl]
    by_cases hh : headP ⟨true, rA, rB, rC, rE, ins⟩
    · obtain ⟨h1, h2, h3, h4, h5, h6⟩ := id hh
      have h1 : ins.length = 0 := h1
      have key := right_line rA rB rC rE I ic A ca a B cb b w hA hB hc ho (btwB ⟨true, rA, rB, rC, rE, ins⟩ a b) h2 h3 h4 h5 h6 (by
        unfold btwB
        rw [decide_eq_true_iff, btwP_iff]
        constructor
        · rintro ⟨_, g1, g2⟩
          refine ⟨fun ⟨k, hk, h⟩ => ?_, fun ⟨k, hk, h⟩ => ?_⟩
          · have := g1 k hk
            have := (ovr_pos (r := ⟨true, rA, rB, rC, rE, ins⟩)).1 h
            omega
          · have := g2 k hk
            have := (ovr_neg (r := ⟨true, rA, rB, rC, rE, ins⟩)).1 h
            omega
        · rintro ⟨g1, g2⟩
          refine ⟨hh, fun k hk => ?_, fun k hk => ?_⟩
          · exact Int.not_lt.1 fun h => g1 ⟨k, hk, (ovr_pos (r := ⟨true, rA, rB, rC, rE, ins⟩)).2 h⟩
          · exact Int.not_lt.1 fun h => g2 ⟨k, hk, (ovr_neg (r := ⟨true, rA, rB, rC, rE, ins⟩)).2 h⟩)
      show Calls Try.prog 76 #[.agg #[.bool true, vint rA, vint rB, vint rC, vint rE, .slice I ins.length ic], .slice A a.length ca, .slice B b.length cb] w _
      rw [h1]
      exact key
    · rw [← btwB_no fun h => hh (btwP_iff.1 h).1]
      exact right_head rA rB rC rE I ins.length ic A a.length ca B b.length cb w hh
def apartE (ps : List (List Sp)) (hs : List Hg) (i k : Int) (r : Apr) : Int := if twoE ps hs i k = 0 then (if rightB r (pcrn ps hs i.toNat) (pcrn ps hs k.toNat) = true then 0 else 31) else twoE ps hs i k
theorem apartE_nat {ps : List (List Sp)} {hs : List Hg} {i k : Nat} {r : Apr} (h : twoE ps hs i k = 0) : apartE ps hs i k r = if rightB r (pcrn ps hs i) (pcrn ps hs k) = true then 0 else 31 := by rw [apartE, if_pos h]; simp
set_option maxRecDepth 100000 in
set_option maxHeartbeats 4000000 in
theorem checkapart_any (A : Option Addr) (c : Nat) (ps : List (List Sp)) (B : Option Addr) (d : Nat) (hs : List Hg) (i k : Int) (r : Apr) (I : Option Addr) (ic : Nat) (w : World) (hL : Lk w A ps B hs) (hr : AprIn w r I ic) :
    Calls Try.prog 44 #[.agg #[.slice A ps.length c, .slice B hs.length d], .int .i64 i, .int .i64 k, r.val I ic] w fun e w' => e = .returned (.int .i64 (apartE ps hs i k r)) ∧ Ext w w' := by
  rcases two_cases ps hs i k with ⟨h1, ⟨a, b, rfl, rfl, ha, hb, hne⟩, h2⟩ | ⟨h2, h3⟩
  · have ht := fun w' (he : Ext w w') => two_in A c ps B d hs a b w' (hL.ext he) h1 ha hb hne
    have hri := fun (X Y : Option Addr) (x y : Nat) w' (he : Ext w w') (hX : CRow w' X (pcrn ps hs a)) (hY : CRow w' Y (pcrn ps hs b)) => right_any r I ic X x _ Y y _ w' (hr.ext he) hX hY (pcrn_ok h1 ha) (pcrn_ok h1 hb)
    rw [apartE_nat h2]
    have Ht := Lib.hid ht
    have Hri := Lib.hid hri
    clear ht hri hL h1 h2 ha hb hne hr
    generalize rightB r (pcrn ps hs a) (pcrn ps hs b) = R at *
    obtain ⟨rc, rA, rB, rC, rE, ins⟩ := r
    generalize ps.length = np at *
    generalize hs.length = nh at *
    generalize (pcrn ps hs a).length = m1 at *
    generalize (pcrn ps hs b).length = m2 at *
    have kl : Blk ((w.alloc (.cells #[.slice A np c, .slice B nh d] 25)).alloc (.cells #[.bool rc, vint rA, vint rB, vint rC, vint rE, .slice I ins.length ic] 67)) w.heap.size [.slice A np c, .slice B nh d] := (Blk.new _ _).ext ((Ext.refl _).alloc _)
    have ka : Blk ((w.alloc (.cells #[.slice A np c, .slice B nh d] 25)).alloc (.cells #[.bool rc, vint rA, vint rB, vint rC, vint rE, .slice I ins.length ic] 67)) (w.heap.size + 1) [.bool rc, vint rA, vint rB, vint rC, vint rE, .slice I ins.length ic] := Blk.new' (cs := #[.bool rc, vint rA, vint rB, vint rC, vint rE, .slice I ins.length ic]) (by simp)
    have b0 := kl.at_ 0 rfl
    have b1 := kl.at_ 1 rfl
    have a0 := ka.at_ 0 rfl
    have a1 := ka.at_ 1 rfl
    have a2 := ka.at_ 2 rfl
    have a3 := ka.at_ 3 rfl
    have a4 := ka.at_ 4 rfl
    have a5 := ka.at_ 5 rfl
    have hx0 : Ext w ((w.alloc (.cells #[.slice A np c, .slice B nh d] 25)).alloc (.cells #[.bool rc, vint rA, vint rB, vint rC, vint rE, .slice I ins.length ic] 67)) := ((Ext.refl _).alloc _).alloc _
    have Hx0 := Lib.hid hx0
    clear kl ka hx0
    cases R
    all_goals
      go_enter Try.func44, Try.ntmps44
      go_wp2_with (first
        | (go_at_call 73; refine (Ht.out _ Hx0.out).mono ?_; rintro e w1 ⟨X, x, Y, y, rfl, hX, hY, hx1⟩; have hxx := Hx0.out.trans hx1; replace b0 : ∀ w', Ext w1 w' → _ := fun w' he => b0 w' (hx1.trans he); replace b1 : ∀ w', Ext w1 w' → _ := fun w' he => b1 w' (hx1.trans he); replace a0 : ∀ w', Ext w1 w' → _ := fun w' he => a0 w' (hx1.trans he); replace a1 : ∀ w', Ext w1 w' → _ := fun w' he => a1 w' (hx1.trans he); replace a2 : ∀ w', Ext w1 w' → _ := fun w' he => a2 w' (hx1.trans he); replace a3 : ∀ w', Ext w1 w' → _ := fun w' he => a3 w' (hx1.trans he); replace a4 : ∀ w', Ext w1 w' → _ := fun w' he => a4 w' (hx1.trans he); replace a5 : ∀ w', Ext w1 w' → _ := fun w' he => a5 w' (hx1.trans he))
        | (go_at_call 76; refine (Hri.out X Y x y _ hxx hX hY).mono ?_; rintro e w2 ⟨rfl, hx2⟩))
      go_ret
      exact ⟨rfl, hxx.trans hx2⟩
  · have ht := fun w' (he : Ext w w') => two_err A c ps B d hs i k w' (hL.ext he) h3
    have hne : ¬ twoE ps hs i k = 0 := by omega
    rw [apartE, if_neg hne]
    have d1 : (twoE ps hs i k != 0) = true := by simpa using hne
    have Ht := Lib.hid ht
    clear ht hL h2 hne h3 hr
    generalize twoE ps hs i k = E at *
    obtain ⟨rc, rA, rB, rC, rE, ins⟩ := r
    generalize ps.length = np at *
    generalize hs.length = nh at *
    have kl : Blk ((w.alloc (.cells #[.slice A np c, .slice B nh d] 25)).alloc (.cells #[.bool rc, vint rA, vint rB, vint rC, vint rE, .slice I ins.length ic] 67)) w.heap.size [.slice A np c, .slice B nh d] := (Blk.new _ _).ext ((Ext.refl _).alloc _)
    have ka : Blk ((w.alloc (.cells #[.slice A np c, .slice B nh d] 25)).alloc (.cells #[.bool rc, vint rA, vint rB, vint rC, vint rE, .slice I ins.length ic] 67)) (w.heap.size + 1) [.bool rc, vint rA, vint rB, vint rC, vint rE, .slice I ins.length ic] := Blk.new' (cs := #[.bool rc, vint rA, vint rB, vint rC, vint rE, .slice I ins.length ic]) (by simp)
    have b0 := kl.at_ 0 rfl
    have b1 := kl.at_ 1 rfl
    have a0 := ka.at_ 0 rfl
    have a1 := ka.at_ 1 rfl
    have a2 := ka.at_ 2 rfl
    have a3 := ka.at_ 3 rfl
    have a4 := ka.at_ 4 rfl
    have a5 := ka.at_ 5 rfl
    have hx0 : Ext w ((w.alloc (.cells #[.slice A np c, .slice B nh d] 25)).alloc (.cells #[.bool rc, vint rA, vint rB, vint rC, vint rE, .slice I ins.length ic] 67)) := ((Ext.refl _).alloc _).alloc _
    have Hx0 := Lib.hid hx0
    clear kl ka hx0
    go_enter Try.func44, Try.ntmps44
    go_wp2_with (go_at_call 73; refine (Ht.out _ Hx0.out).mono ?_; rintro e w1 ⟨rfl, hx1⟩; have hxx := Hx0.out.trans hx1)
    go_ret
    exact ⟨rfl, hxx⟩
end Go.Proofs.Yteilglljigjefaa
