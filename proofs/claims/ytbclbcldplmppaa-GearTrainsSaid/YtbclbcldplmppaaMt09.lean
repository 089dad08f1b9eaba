/- The code's Slips. -/
import Derived.Test.YtbclbcldplmppaaMt08
namespace Go.Proofs.Ytbclbcldplmppaa
open Go.RowKit

/-- A slice variable in a block of its own, and its numbers. -/
structure AllB (wb w : World) (ba : Nat) (v : Value) (n : Nat) (xs : List Value) : Prop where
  own : Own wb w 3 1 v n xs
  ne : v.ownBlock ≠ some ba
  ge : wb.heap.size ≤ ba
  c : w.heap[ba]? = some (.cells #[v] 22)
section
variable {wb w : World} {ba : Nat} {v : Value} {n : Nat} {xs : List Value}
theorem AllB.later {w' : World} (h : AllB wb w ba v n xs) (he : Ext w w') : AllB wb w' ba v n xs := ⟨h.own.later he, h.ne, h.ge, he.heap h.c⟩
theorem AllB.start (wb : World) : AllB wb (wb.alloc (.cells #[.slice none 0 0] 22)) wb.heap.size (.slice none 0 0) 0 [] := ⟨Own.nil' (by simp) _ _, by simp [Value.ownBlock], Nat.le_refl _, heap_alloc_new _ _⟩
theorem AllB.cell (h : AllB wb w ba v n xs) : ∀ w', Ext w w' → w'.cell? ⟨ba, 0, none⟩ = some v := fun w' he => by rw [cell_heap (he.heap h.c)]; rfl
theorem AllB.free (h : AllB wb w ba v n xs) : w.frozen? ⟨ba, 0, none⟩ = false := by simp [World.frozen?, h.c]
structure AllC (wb w : World) (ba : Nat) (v v' : Value) (n : Nat) (xs : List Value) : Prop where
  own : Own wb w 3 1 v' n xs
  ne : v'.ownBlock ≠ some ba
  ge : wb.heap.size ≤ ba
  c : w.heap[ba]? = some (.cells #[v] 22)
theorem AllB.appended {w' : World} {v' : Value} {n' : Nat} {ys : List Value} (h : AllB wb w ba v n xs) (ho : Own wb w' 3 1 v' n' ys) (hg : w.grownBy w' v.ownBlock) (hb : v'.ownBlock = v.ownBlock ∨ v'.ownBlock = some w.heap.size) : AllC wb w' ba v v' n' ys := by
  have hl := (Array.getElem?_eq_some_iff.1 h.c).1
  refine ⟨ho, ?_, h.ge, (hg.block ba hl (fun e => h.ne e.symm)).trans h.c⟩
  rcases hb with e | e
  · rw [e]; exact h.ne
  · rw [e]; intro e'; injection e' with e'; omega
theorem AllC.stored {v' : Value} (h : AllC wb w ba v v' n xs) : AllB wb (w.setCell ⟨ba, 0, none⟩ v') ba v' n xs :=
  ⟨h.own.other h.ge h.ne v', h.ne, h.ge, heap_setCell h.c⟩
theorem AllC.cell {v' : Value} (h : AllC wb w ba v v' n xs) : w.cell? ⟨ba, 0, none⟩ = some v := by rw [cell_heap h.c]; rfl
theorem AllC.free {v' : Value} (h : AllC wb w ba v v' n xs) : w.frozen? ⟨ba, 0, none⟩ = false := by simp [World.frozen?, h.c]
end

theorem cells_one {w : World} {cs : Array Value} {t : TypeId} {j : Nat} {v : Value} (hv : cs[j]? = some v) : ∀ w', Ext (w.alloc (.cells cs t)) w' → w'.cell? ⟨w.heap.size, j, none⟩ = some v := fun w' he => by
  rw [cell_heap (he.heap (heap_alloc_new w _)), hv]
theorem cells_two {w : World} {o : Obj} {cs : Array Value} {t : TypeId} {j : Nat} {v : Value} (hv : cs[j]? = some v) : ∀ w', Ext ((w.alloc o).alloc (.cells cs t)) w' → w'.cell? ⟨w.heap.size + 1, j, none⟩ = some v := fun w' he => by
  have h : (w.alloc o).heap.size = w.heap.size + 1 := by simp only [World.alloc, Array.size_push]
  rw [← h, cell_heap (he.heap (heap_alloc_new (w.alloc o) _)), hv]
theorem cells_three {w : World} {o o' : Obj} {cs : Array Value} {t : TypeId} {j : Nat} {v : Value} (hv : cs[j]? = some v) : ∀ w', Ext (((w.alloc o).alloc o').alloc (.cells cs t)) w' → w'.cell? ⟨w.heap.size + 1 + 1, j, none⟩ = some v := fun w' he => by
  have h : ((w.alloc o).alloc o').heap.size = w.heap.size + 1 + 1 := by simp only [World.alloc, Array.size_push]
  rw [← h, cell_heap (he.heap (heap_alloc_new ((w.alloc o).alloc o') _)), hv]

set_option maxRecDepth 100000 in
set_option maxHeartbeats 4000000 in
theorem slips_any (A : Option Addr) (c : Nat) (s : Int) (ms : List Msh) (i : Int) (w : World) (hA : MRow w A ms) (hl : ms.length ≤ 1000000) :
    Calls Try.prog 31 #[.agg #[.int .i64 s, .slice A ms.length c], .int .i64 i] w (IntsRes w (slipL s ms i) (slipX s ms i)) := by
  have c0 : ∀ (g : Nat) (w' : World) (_ : Ext w w') (_ : w'.cell? ⟨g, 0, none⟩ = some (vint i)), Calls Try.prog 73 #[.agg #[.int .i64 s, .slice A ms.length c], .slice (some ⟨g, 0, none⟩) 1 1] w' fun e w'' => e = .returned (.int .i64 (askE s ms [i])) ∧ Ext w' w'' :=
    fun g w' he hc => asked_any A c s ms (some ⟨g, 0, none⟩) 1 [i] w' (hA.ext he) hl (ints_one hc) (by simp)
  have C0 := Lib.hid c0
  clear c0
  by_cases hz : askE s ms [i] = 0
  · obtain ⟨hT, hin⟩ := askE_zero hz
    have ht : trainP s ms := of_decide_eq_true hT
    obtain ⟨S, rfl⟩ : ∃ S : Nat, s = S := ⟨s.toNat, by have := ht.1; omega⟩
    have hi0 := hin i (by simp)
    obtain ⟨I, rfl⟩ : ∃ I : Nat, i = I := ⟨i.toNat, by omega⟩
    have hI : I < S := by omega
    have hl16 := ht.2.2.1
    have hna : (clF ms 0).length ≤ ms.length := Nat.le_trans (clF_len ms 0) (by omega)
    have hch : ∀ (b : World) (bt bi ba ca F : Nat) (Aa : Option Addr), ChE b bt bi ba A c S I ms Aa ca F → ∀ (n : Nat) (w' : World), n ≤ 800 → ChW b w' F (clos bt bi ba F) →
      Calls Try.prog 74 #[.slice none 0 0, .int .i64 0, .int .i64 n, .pointer (some ⟨bt, 0, none⟩), .pointer (some ⟨bi, 0, none⟩), .pointer (some ⟨F, 0, none⟩), .pointer (some ⟨ba, 0, none⟩), .pointer (some ⟨F + 1, 0, none⟩)] w' (ChRes w' F (slipN ms S I n)) := fun b bt bi ba ca F Aa hE n w' hn hW =>
        choose_any hE n 0 (.slice none 0 0) [] w' hW ⟨RowI.nil w', by simp [Value.ownBlock], fun _ => rfl⟩ (Nat.zero_le _) (by simp; omega)
    have hmk : ∀ (b : World) (bt bi ba ca F : Nat) (Aa : Option Addr), Ext w b → (∀ w', Ext b w' → w'.cell? ⟨bt, 0, none⟩ = some (.int .i64 S)) → (∀ w', Ext b w' → w'.cell? ⟨bt, 1, none⟩ = some (.slice A ms.length c)) → (∀ w', Ext b w' → w'.cell? ⟨bi, 0, none⟩ = some (.int .i64 I)) →
      (∀ w', Ext b w' → w'.cell? ⟨ba, 0, none⟩ = some (.slice Aa (clF ms 0).length ca)) → Ints b Aa (natI (clF ms 0)) → b.heap.size ≤ F → ChE b bt bi ba A c S I ms Aa ca F := fun b bt bi ba ca F Aa he h1 h2 h3 h4 h5 h6 => ⟨hA.ext he, ht, hI, h1, h2, h3, h4, h5, h6⟩
    have ha := fun k (hk : k < ms.length) => hA.at_ hk
    have htk := fun (k : Nat) (hk : k < ms.length) (h7 : ms[k].kind = 7) => clP_take hk h7
    have hsk := fun (k : Nat) (hk : k < ms.length) (h7 : ¬ ms[k].kind = 7) => clP_skip hk h7
    have hpall := clP_all ms
    have hp0 : clP ms 0 = [] := rfl
    have hple : ∀ k, (clP ms k).length ≤ k := fun k => by
      unfold clP
      have := List.length_filter_le (isCl ms) (List.range k)
      rwa [List.length_range] at this
    have hsome := fun (l : List Nat) (h : slipO ms S I = some l) => slipX_some (s := (S : Int)) (i := (I : Int)) hz h
    have hnone := fun (h : slipO ms S I = none) => slipX_none (s := (S : Int)) (i := (I : Int)) hz h
    have hs1 := fun (n : Nat) (l : List Nat) (hn : n ≤ ms.length) => slipO_some (S := S) (i := I) (r := l) hn
    have hs2 := slipO_none' (ms := ms) (S := S) (i := I)
    rw [hz] at C0
    have Hch := Lib.hid hch
    have Hmk := Lib.hid hmk
    have Ha := Lib.hid ha
    have Htk := Lib.hid htk
    have Hsk := Lib.hid hsk
    have Hpall := Lib.hid hpall
    have Hp0 := Lib.hid hp0
    have Hple := Lib.hid hple
    have Hsome := Lib.hid hsome
    have Hnone := Lib.hid hnone
    have Hs1 := Lib.hid hs1
    have Hs2 := Lib.hid hs2
    clear hch hmk ha htk hsk hpall hp0 hple hsome hnone hs1 hs2 hA ht hT hin hz hl hi0
    generalize slipN ms S I = N at *
    generalize slipO ms S I = O at *
    generalize slipX (S : Int) ms (I : Int) = X at *
    generalize slipL (S : Int) ms (I : Int) = L at *
    generalize clF ms 0 = all at *
    generalize clP ms = P at *
    obtain ⟨m, hm⟩ : ∃ m, m = ms.length := ⟨_, rfl⟩
    rw [← hm] at hl16 hna C0 Hmk Hpall Hs1
    rw [← hm]
    have Hm := Lib.hid hm
    clear hm
    have C1 := Lib.hid (C0.out (w.heap.size + 1 + 1) (((w.alloc (.cells #[.int .i64 S, .slice A m c] 41)).alloc (.cells #[.int .i64 I] 3)).alloc (.cells #[.int .i64 I] 3)) ((((Ext.refl w).alloc _).alloc _).alloc _) (cells_three rfl _ (Ext.refl _)))
    clear C0
    have hq0 : ∀ w', Ext (((w.alloc (.cells #[.int .i64 S, .slice A m c] 41)).alloc (.cells #[.int .i64 I] 3)).alloc (.cells #[.int .i64 I] 3)) w' → w'.cell? ⟨w.heap.size, 0, none⟩ = some (.int .i64 S) := fun w' he => cells_one rfl w' (Ext.trans (((Ext.refl _).alloc _).alloc _) he)
    have hq1 : ∀ w', Ext (((w.alloc (.cells #[.int .i64 S, .slice A m c] 41)).alloc (.cells #[.int .i64 I] 3)).alloc (.cells #[.int .i64 I] 3)) w' → w'.cell? ⟨w.heap.size, 1, none⟩ = some (.slice A m c) := fun w' he => cells_one rfl w' (Ext.trans (((Ext.refl _).alloc _).alloc _) he)
    have hi0 : ∀ w', Ext (((w.alloc (.cells #[.int .i64 S, .slice A m c] 41)).alloc (.cells #[.int .i64 I] 3)).alloc (.cells #[.int .i64 I] 3)) w' → w'.cell? ⟨w.heap.size + 1, 0, none⟩ = some (.int .i64 I) := fun w' he => cells_two rfl w' (Ext.trans ((Ext.refl _).alloc _) he)
    have hxw : Ext w (((w.alloc (.cells #[.int .i64 S, .slice A m c] 41)).alloc (.cells #[.int .i64 I] 3)).alloc (.cells #[.int .i64 I] 3)) := (((Ext.refl w).alloc _).alloc _).alloc _
    have Hq0 := Lib.hid hq0
    have Hq1 := Lib.hid hq1
    have Hi0 := Lib.hid hi0
    clear hq0 hq1 hi0
    go_enter Try.func31, Try.ntmps31
    go_wp2_with (first
      | (go_at_call 73; refine C1.out.mono ?_; rintro e wb ⟨rfl, hx1⟩; have hq1 := fun w' he => Hq1.out w' (hx1.trans he))
      | fail)
    have Hx1 := Lib.hid (hxw.trans hx1)
    have hi0 := fun w' he => Hi0.out w' (hx1.trans he)
    have hq0 := fun w' he => Hq0.out w' (hx1.trans he)
    have Gq0 := Lib.hid hq0
    have Gq1 := Lib.hid hq1
    have Gi0 := Lib.hid hi0
    clear Hq0 Hq1 Hi0 hq0 hq1 hi0 hx1 hxw C1
    have hst := AllB.start wb
    generalize hwb2 : wb.alloc (.cells #[.slice none 0 0] 22) = wb2 at *
    clear hwb2
    generalize wb.heap.size = ba at *
    generalize w.heap.size = bt at *
    go_loopw [23] (fun i wr => ∃ k : Nat, k ≤ m ∧ i = .int .i64 k ∧ ∃ v, AllB wb wr ba v (P k).length ((natI (P k)).map vint)) (fun i _ => m - (intOf i).toNat)
    case atStart => exact ⟨0, by omega, rfl, _, by rw [Hp0.out]; exact hst⟩
    case round =>
      clear hst
      obtain ⟨k, hk, rfl, v, hall⟩ := hrel
      obtain ⟨Av, cv, rfl⟩ := hall.own.form
      have hple := Hple.out k
      by_cases hlt : k < m
      · have hkp : k < ms.length := by rw [← Hm.out]; exact hlt
        obtain ⟨ad, rfl, q0, q1, q2, q3, q4, q5⟩ := Ha.out k hkp
        have hexw : Ext w wr := Hx1.out.trans hall.own.ext
        have q0 : ∀ w', Ext wr w' → _ := fun w' he => q0 w' (hexw.trans he)
        have q1 : ∀ w', Ext wr w' → _ := fun w' he => q1 w' (hexw.trans he)
        have q2 : ∀ w', Ext wr w' → _ := fun w' he => q2 w' (hexw.trans he)
        have q3 : ∀ w', Ext wr w' → _ := fun w' he => q3 w' (hexw.trans he)
        have q4 : ∀ w', Ext wr w' → _ := fun w' he => q4 w' (hexw.trans he)
        have q5 : ∀ w', Ext wr w' → _ := fun w' he => q5 w' (hexw.trans he)
        have htk := Htk.out k hkp
        have hsk := Hsk.out k hkp
        have Htk' := Lib.hid htk
        have Hsk' := Lib.hid hsk
        clear htk hsk Ha Htk Hsk
        generalize ms[k] = x at *
        obtain ⟨kind, xa, xb, xc, xn, xm⟩ := x
        simp only at q0 q1 q2 q3 q4 q5 Htk' Hsk'
        have hki : (k : Int) < (m : Int) := by omega
        have hc := hall.cell
        obtain ⟨pl, hpl⟩ : ∃ pl, pl = (P k).length := ⟨_, rfl⟩
        rw [← hpl] at hple hall hc
        have Hpl := Lib.hid hpl
        clear hpl
        cases h7 : (kind == 7)
        · have h7' : ¬ kind = 7 := by simpa using h7
          have Hsk2 := Lib.hid (Hsk'.out h7')
          have Hall := Lib.hid hall
          clear Htk' Hsk' h7' hall
          go_wp2
          go_roundw
          case rel => exact ⟨k + 1, by omega, by go_num, _, by rw [Hsk2.out, ← Hpl.out]; exact Hall.out.later (by simp)⟩
          case measure => simp [intOf]; omega
        · have h7' : kind = 7 := by simpa using h7
          have Htk2 := Lib.hid (Htk'.out h7')
          have Hall := Lib.hid hall
          clear Htk' Hsk' h7' hall
          go_wp2_with (first
            | (refine own_append_at (w1 := wb) int_elem rfl _ _ 22 rfl Try.underlying22 _ pl ((natI (P k)).map vint) rfl (Hall.out.own.later (((Ext.refl wr).alloc _).alloc _)) _ 1 1 [vint k] rfl rfl (ints_one (x := (k : Int)) (cells_two rfl _ (Ext.refl _))) (fun u hu => by rw [List.mem_singleton] at hu; rw [hu]; rfl) (by omega) (by unfold maxLen; omega) ?_; intro v' w' ho hg hb; obtain ⟨Av', cv', rfl⟩ := ho.form; have h2 := (Hall.out.later (((Ext.refl wr).alloc _).alloc _)).appended ho hg hb; have c2 := h2.cell; have f2 := h2.free))
          have h3 := h2.stored
          go_roundw
          case rel =>
            refine ⟨k + 1, by omega, by go_num, .slice Av' (pl + 1) cv', ?_⟩
            rw [Htk2.out, natI_snoc, List.length_append, ← Hpl.out, List.map_append]
            exact h3
          case measure => simp [intOf]; omega
      · obtain rfl : k = m := by omega
        obtain ⟨wo, rfl⟩ : ∃ wo : World, wo = wr := ⟨_, rfl⟩
        have hpe : P k = all := Hpall.out
        rw [hpe] at hall
        have hal : Ints wo Av (natI all) := by
          exact hall.own.row
        have q0 := Gq0.out
        have hc := hall.cell
        have hbw : Ext w wo := Hx1.out.trans hall.own.ext
        have q0 : ∀ w', Ext wo w' → _ := fun w' he => Gq0.out w' (hall.own.ext.trans he)
        have q1 : ∀ w', Ext wo w' → _ := fun w' he => Gq1.out w' (hall.own.ext.trans he)
        have i0 : ∀ w', Ext wo w' → _ := fun w' he => Gi0.out w' (hall.own.ext.trans he)
        have hE := Hmk.out wo bt (bt + 1) ba cv wo.heap.size Av hbw q0 q1 i0 hc hal (Nat.le_refl _)
        have hcall := Hch.out wo bt (bt + 1) ba cv wo.heap.size Av hE
        have hW : ChW wo ((wo.alloc (.cells #[.slice none 0 0] 22)).alloc (.cells #[.func (.func 74) #[] #[.pointer (some ⟨bt, 0, none⟩), .pointer (some ⟨bt + 1, 0, none⟩), .pointer (some ⟨wo.heap.size, 0, none⟩), .pointer (some ⟨ba, 0, none⟩), .pointer (some ⟨wo.heap.size + 1, 0, none⟩)]] 111)) wo.heap.size (clos bt (bt + 1) ba wo.heap.size) := ⟨((Ext.refl wo).alloc _).alloc _, ⟨_, ((Ext.refl _).alloc _).heap (heap_alloc_new wo _)⟩, by
          have h : (wo.alloc (.cells #[.slice none 0 0] 22)).heap.size = wo.heap.size + 1 := by simp only [World.alloc, Array.size_push]
          have h2 := heap_alloc_new (wo.alloc (.cells #[.slice none 0 0] 22)) (.cells #[.func (.func 74) #[] #[.pointer (some ⟨bt, 0, none⟩), .pointer (some ⟨bt + 1, 0, none⟩), .pointer (some ⟨wo.heap.size, 0, none⟩), .pointer (some ⟨ba, 0, none⟩), .pointer (some ⟨wo.heap.size + 1, 0, none⟩)]] 111)
          rw [h] at h2
          exact h2⟩
        have hcW := hc _ hW.ext
        have hlw : w.heap.size ≤ wo.heap.size := hbw.le
        have HlowW := Lib.hid hlw
        have HW := Lib.hid hW
        have HE := Lib.hid hcall
        have Hbw := Lib.hid hbw
        have HC := Lib.hid hc
        clear hlw hW hc hE hcall hal hall q0 q1 i0 Gq0 Gq1 Gi0 Hmk Hch Ha Htk Hsk hpe hple hbw
        have hmf : ∀ (fn : Fn) (first cap : Array Value) (w : World), (Instr.makeFunc fn first cap).run Try.prog w = .ok (.func fn first cap) w := fun _ _ _ _ => rfl
        have hsf : ∀ (a : Addr) (f : Fn) (x y : Array Value) (w : World), (store a (.func f x y)).run Try.prog w = stored Try.prog w a (.func f x y) .plain := fun a f x y w => run_store Try.prog w a _ .plain rfl
        have en : IntKind.i64.wrap ((all.length : Int) + 1) = ((all.length + 1 : Nat) : Int) := by rw [IntKind.wrap_i64]; omega
        generalize all.length = na at *
        go_wp2
        clear hcW
        generalize ((wo.alloc (.cells #[.slice none 0 0] 22)).alloc (.cells #[.func (.func 74) #[] #[.pointer (some ⟨bt, 0, none⟩), .pointer (some ⟨bt + 1, 0, none⟩), .pointer (some ⟨wo.heap.size, 0, none⟩), .pointer (some ⟨ba, 0, none⟩), .pointer (some ⟨wo.heap.size + 1, 0, none⟩)]] 111)) = W2 at *
        obtain ⟨F, hF⟩ : ∃ F, F = wo.heap.size := ⟨_, rfl⟩
        have hlow : wo.heap.size ≤ F := by rw [hF]; exact Nat.le_refl _
        have Hlow := Lib.hid hlow
        rw [← hF] at HW HE HlowW ⊢
        clear hF hlow
        go_loopw [40, 12] (fun i _ wr => ∃ j : Nat, j ≤ na + 1 ∧ i = .int .i64 j ∧ W2.grownBy wr (some F) ∧ (∃ u, wr.heap[F]? = some (.cells #[u] 22)) ∧ ∀ x, x < j → N x = none) (fun i _ _ => na + 1 - (intOf i).toNat)
        case atStart => exact ⟨0, by omega, rfl, grownBy_refl _ _, HW.out.f, fun x hx => by omega⟩
        case round =>
          obtain ⟨j, hj, rfl, hgr, ⟨u, hu⟩, hno⟩ := hrel
          have hWl := HW.out.grown Hlow.out hgr hu
          have HWl := Lib.hid hWl
          have Hgr := Lib.hid hgr
          have Hu := Lib.hid hu
          have Hno := Lib.hid hno
          have hclo : wr.cell? ⟨F + 1, 0, none⟩ = some (.func (.func 74) #[] #[.pointer (some ⟨bt, 0, none⟩), .pointer (some ⟨bt + 1, 0, none⟩), .pointer (some ⟨F, 0, none⟩), .pointer (some ⟨ba, 0, none⟩), .pointer (some ⟨F + 1, 0, none⟩)]) := by rw [cell_heap hWl.g]; rfl
          clear hgr hu hno hWl
          by_cases hjl : j ≤ na
          · have hji : (j : Int) < (na : Int) + 1 := by omega
            have hji2 : (j : Int) < ((na + 1 : Nat) : Int) := by omega
            have hcall := HE.out j wr (by omega) HWl.out
            obtain ⟨r, hr⟩ : ∃ r, r = N j := ⟨_, rfl⟩
            rw [← hr] at hcall
            have Hr := Lib.hid hr
            have Hc := Lib.hid hcall
            clear hr hcall
            cases r with
            | none =>
              go_wp2_with (first
                | (go_at_call 74; refine Hc.out.mono ?_; rintro e w4 ⟨rfl, hg4, u4, hu4, _⟩; simp only [Option.isSome_none]))
              go_roundw
              case rel => exact ⟨j + 1, by omega, by go_num, Hgr.out.trans hg4, ⟨u4, hu4⟩, fun x hx => by
                by_cases e : x = j
                · subst e; exact Hr.out.symm
                · exact Hno.out x (by omega)⟩
              case measure => simp [intOf]; omega
            | some l =>
              go_wp2_with (first
                | (go_at_call 74; refine Hc.out.mono ?_; rintro e w4 ⟨rfl, hg4, u4, hu4, hv4⟩; obtain ⟨A4, c4, rfl, hi4⟩ := (hv4 l rfl).isInts; simp only [Option.isSome_some]; have hc4 : w4.cell? ⟨F, 0, none⟩ = some (.slice A4 (natI l).length c4) := by rw [cell_heap hu4]; rfl))
              go_ret2
              obtain ⟨e1, e2⟩ := Hsome.out l (Hs1.out j l (by omega) Hno.out Hr.out.symm)
              rw [← e2] at hi4 ⊢
              refine ⟨A4, c4, by rw [e1]; rfl, hi4, ?_⟩
              exact ((Hbw.out.trans HW.out.ext).grown (Hgr.out.trans hg4) (fun x hx => by injection hx with hx; rw [← hx]; exact HlowW.out))
          · obtain rfl : j = na + 1 := by omega
            obtain ⟨e1, e2⟩ := Hnone.out (Hs2.out fun x hx => Hno.out x (by omega))
            have E1 := Lib.hid e1
            have E2 := Lib.hid e2
            clear e1 e2
            go_wp2
            go_ret2
            refine intsRes_nil E2.out.symm E1.out.symm ?_
            exact ((Hbw.out.trans HW.out.ext).grown Hgr.out (fun x hx => by injection hx with hx; rw [← hx]; exact HlowW.out))
  · obtain ⟨e1, e2⟩ := slipX_bad hz
    rw [e1, e2]
    clear e1 e2
    generalize askE s ms [i] = X at *
    generalize ms.length = m at *
    have C1 := Lib.hid (C0.out (w.heap.size + 1 + 1) (((w.alloc (.cells #[.int .i64 s, .slice A m c] 41)).alloc (.cells #[.int .i64 i] 3)).alloc (.cells #[.int .i64 i] 3)) ((((Ext.refl w).alloc _).alloc _).alloc _) (cells_three rfl _ (Ext.refl _)))
    clear C0
    go_enter Try.func31, Try.ntmps31
    go_wp2_with (first
      | (go_at_call 73; refine C1.out.mono ?_; rintro e wb ⟨rfl, hx1⟩))
    go_ret2
    exact intsRes_nil rfl rfl (Ext.trans (by simp (maxDischargeDepth := 8)) hx1)
end Go.Proofs.Ytbclbcldplmppaa

/- Two trains compared; a copy of a train's meshes; a mesh's kind raised. -/
namespace Go.Proofs.Ytbclbcldplmppaa
open Go.RowKit

theorem neq_same (x : Msh) (w : World) : (binOp .neq 57 x.val x.val).run Try.prog w = .ok (.bool false) w := by
  rw [neq_msh]; simp

set_option maxRecDepth 100000 in
set_option maxHeartbeats 2000000 in
theorem same_train (A B : Option Addr) (c d : Nat) (s : Int) (ms : List Msh) (w : World) (hA : MRow w A ms) (hB : MRow w B ms) (hl : ms.length ≤ 1000000) :
    Calls Try.prog 30 #[.agg #[.int .i64 s, .slice A ms.length c], .agg #[.int .i64 s, .slice B ms.length d]] w fun e w' => e = .returned (.bool true) ∧ Ext w w' := by
  have ha := fun k (hk : k < ms.length) => hA.at_ hk
  have hb := fun k (hk : k < ms.length) => hB.at_ hk
  have Ha := Lib.hid ha
  have Hb := Lib.hid hb
  clear ha hb hA hB
  obtain ⟨m, hm⟩ : ∃ m, m = ms.length := ⟨_, rfl⟩
  rw [← hm] at hl ⊢
  have Hm := Lib.hid hm
  clear hm
  go_enter Try.func30, Try.ntmps30
  have hz : (w.alloc (.cells #[.int .i64 s, .slice A m c] 41)).heap.size = w.heap.size + 1 := by simp only [World.alloc, Array.size_push]
  have hx : Ext w ((w.alloc (.cells #[.int .i64 s, .slice A m c] 41)).alloc (.cells #[.int .i64 s, .slice B m d] 41)) := ((Ext.refl w).alloc _).alloc _
  have a0 : ∀ w', Ext ((w.alloc (.cells #[.int .i64 s, .slice A m c] 41)).alloc (.cells #[.int .i64 s, .slice B m d] 41)) w' → w'.cell? ⟨w.heap.size, 0, none⟩ = some (.int .i64 s) := fun w' he => cells_one rfl w' (Ext.trans ((Ext.refl _).alloc _) he)
  have a1 : ∀ w', Ext ((w.alloc (.cells #[.int .i64 s, .slice A m c] 41)).alloc (.cells #[.int .i64 s, .slice B m d] 41)) w' → w'.cell? ⟨w.heap.size, 1, none⟩ = some (.slice A m c) := fun w' he => cells_one rfl w' (Ext.trans ((Ext.refl _).alloc _) he)
  have b0 : ∀ w', Ext ((w.alloc (.cells #[.int .i64 s, .slice A m c] 41)).alloc (.cells #[.int .i64 s, .slice B m d] 41)) w' → w'.cell? ⟨w.heap.size + 1, 0, none⟩ = some (.int .i64 s) := fun w' he => cells_two rfl w' he
  have b1 : ∀ w', Ext ((w.alloc (.cells #[.int .i64 s, .slice A m c] 41)).alloc (.cells #[.int .i64 s, .slice B m d] 41)) w' → w'.cell? ⟨w.heap.size + 1, 1, none⟩ = some (.slice B m d) := fun w' he => cells_two rfl w' he
  go_wp2
  generalize (w.alloc (.cells #[.int .i64 s, .slice A m c] 41)).alloc (.cells #[.int .i64 s, .slice B m d] 41) = wb at *
  generalize w.heap.size = bx at *
  have Hx := Lib.hid hx
  have A1 := Lib.hid a1
  have B1 := Lib.hid b1
  clear hx a0 a1 b0 b1 hz
  go_loopw [5] (fun i wr => ∃ k : Nat, k ≤ m ∧ i = .int .i64 k ∧ Ext wb wr) (fun i _ => m - (intOf i).toNat)
  case atStart => exact ⟨0, by omega, rfl, Ext.refl _⟩
  case round =>
    obtain ⟨k, hk, rfl, hex⟩ := hrel
    have a1 : ∀ w', Ext wr w' → w'.cell? ⟨bx, 1, none⟩ = some (.slice A m c) := fun w' he => A1.out w' (hex.trans he)
    have b1 : ∀ w', Ext wr w' → w'.cell? ⟨bx + 1, 1, none⟩ = some (.slice B m d) := fun w' he => B1.out w' (hex.trans he)
    by_cases hlt : k < m
    · have hkp : k < ms.length := by rw [← Hm.out]; exact hlt
      obtain ⟨ad, rfl, q0, q1, q2, q3, q4, q5⟩ := Ha.out k hkp
      obtain ⟨bd, rfl, r0, r1, r2, r3, r4, r5⟩ := Hb.out k hkp
      have hexw := Hx.out.trans hex
      have q0 : ∀ w', Ext wr w' → _ := fun w' he => q0 w' (hexw.trans he)
      have q1 : ∀ w', Ext wr w' → _ := fun w' he => q1 w' (hexw.trans he)
      have q2 : ∀ w', Ext wr w' → _ := fun w' he => q2 w' (hexw.trans he)
      have q3 : ∀ w', Ext wr w' → _ := fun w' he => q3 w' (hexw.trans he)
      have q4 : ∀ w', Ext wr w' → _ := fun w' he => q4 w' (hexw.trans he)
      have q5 : ∀ w', Ext wr w' → _ := fun w' he => q5 w' (hexw.trans he)
      have r0 : ∀ w', Ext wr w' → _ := fun w' he => r0 w' (hexw.trans he)
      have r1 : ∀ w', Ext wr w' → _ := fun w' he => r1 w' (hexw.trans he)
      have r2 : ∀ w', Ext wr w' → _ := fun w' he => r2 w' (hexw.trans he)
      have r3 : ∀ w', Ext wr w' → _ := fun w' he => r3 w' (hexw.trans he)
      have r4 : ∀ w', Ext wr w' → _ := fun w' he => r4 w' (hexw.trans he)
      have r5 : ∀ w', Ext wr w' → _ := fun w' he => r5 w' (hexw.trans he)
      have hn := neq_same ms[k]
      clear Ha Hb
      generalize ms[k] = x at *
      obtain ⟨kind, xa, xb, xc, xn, xm⟩ := x
      simp only [Msh.val] at q0 q1 q2 q3 q4 q5 r0 r1 r2 r3 r4 r5 hn
      have hki : (k : Int) < (m : Int) := by omega
      go_wp2
      refine wp_region_calm 11 (fun _ _ _ _ => True) (fun _ _ _ _ _ _ h => h) (by kernel_rfl) (by kernel_rfl) ?_
      simp only [List.take_succ_cons, List.take_zero, List.drop_succ_cons, List.drop_zero]
      refine calm_quiet calm_mono_final 11 (by kernel_rfl) ?_
      simp only [List.take_succ_cons, List.take_zero, List.drop_succ_cons, List.drop_zero]
      repeat (go_big_quiet_step (fail))
      refine wpQuiet_nil ?_
      refine calm_nil fun w3 he3 hF => ?_
      clear hF
      go_wp2
      go_roundw
      case rel => exact ⟨k + 1, by omega, by go_num, hex.trans he3⟩
      case measure => simp [intOf]; omega
    · clear Ha Hb
      go_wp2
      go_ret
      exact ⟨rfl, Hx.out.trans hex⟩

/-- 'append([]api.Mesh{}, t.Meshes...)'. -/
theorem app_mesh {w : World} {b c : Nat} {B : Option Addr} {ms : List Msh} (ty : TypeId) (hb : w.heap[b]? = some (.cells #[] 57)) (hB : MRow w B ms) (hl : ms.length ≤ 1000) :
    ∃ h c' cs w', (Builtin.append_ #[39, 39] ty #[.slice (some ⟨b, 0, none⟩) 0 0, .slice B ms.length c]).run Try.prog w = .ok (.slice (some ⟨h, 0, none⟩) ms.length c') w' ∧ Ext w w' ∧ MRow w' (some ⟨h, 0, none⟩) ms ∧ w'.heap[h]? = some (.cells cs 57) := by
  obtain ⟨i, hi, hz0, hz1, hz2⟩ := mesh_elem.info
  have hlen : (cellsL ms).length = ms.length * 6 := by
    have := flatten_len 6 (ms.map Msh.cells) (by simp [Msh.cells])
    simpa [cellsL] using this
  have hs : Src Try.prog 6 39 (.slice B ms.length c) ms.length (cellsL ms) w := by
    cases B with
    | none =>
      cases ms with
      | nil => exact Src.ofNil w Try.underlying39 c
      | cons x xs =>
        obtain ⟨ad, e, _⟩ := hB 0 (by simp [Msh.cells])
        cases e
    | some a =>
      refine Src.ofSlice w Try.underlying39 a _ c _ hlen (fun j u hu => ?_) (fun u hu => ?_)
      · obtain ⟨ad, e, hc⟩ := hB j (List.getElem?_eq_some_iff.1 hu).1
        rw [Option.some.inj e, hc]
        exact hu
      · obtain ⟨r, hr, hur⟩ := List.mem_flatten.1 hu
        obtain ⟨x, _, rfl⟩ := List.mem_map.1 hr
        simp [Msh.cells] at hur
        rcases hur with rfl | rfl | rfl | rfl | rfl | rfl <;> rfl
  have hs' : Src Try.prog i.size 39 (.slice B ms.length c) ms.length (cellsL ms) w := by rw [hz1]; exact hs
  by_cases h0 : ms.length = 0
  · have : ms = [] := List.eq_nil_of_length_eq_zero h0
    subst this
    exact ⟨_, _, _, w, run_append_nothing w 39 39 ty 57 i Try.underlying39 hi _ 0 0 (Nat.le_refl _) _ hs', Ext.refl _, Row.nil _ _, hb⟩
  · have hfit : Builtin.nextslicecap (0 + ms.length) 0 * i.bytes ≤ 281474976710656 := by rw [hz2]; exact growslice_fits (by omega) (by omega)
    have hold : (Builtin.firstCells i.size 0 (.slice (some ⟨b, 0, none⟩) 0 0)).run Try.prog w.drew = .ok ([] : List Value).toArray w.drew := by
      exact run_firstCells_some w.drew i.size 0 _ 0 0 [] (by simp) (by simp)
    have hrun := run_append_grow_src (P := Try.prog) w 39 39 ty 57 i _ Try.underlying39 hi hz0 (some ⟨b, 0, none⟩) 0 0 [] hold _ ms.length (cellsL ms) hs' (by omega) (by omega) hfit
    rw [Nat.zero_add] at hrun
    refine ⟨_, _, _, _, hrun, by simp, fun k hk => ⟨_, rfl, ?_⟩, heap_alloc_new w.drew _⟩
    have hk' : k < (cellsL ms).length := hk
    have hadd : (⟨w.heap.size, 0, none⟩ : Addr).add k = ⟨w.heap.size, k, none⟩ := by unfold Addr.add; split <;> simp_all
    rw [hadd, show w.heap.size = w.drew.heap.size from rfl, cell_heap (heap_alloc_new w.drew _)]
    simp only [List.nil_append]
    rw [Array.getElem?_append_left (by simpa using hk'), List.getElem?_toArray]
    rfl

/-- A mesh's kind, set. -/
theorem cellsL_kind (ms : List Msh) (k : Nat) (hk : k < ms.length) (x : Msh) (h1 : x.a = ms[k].a) (h2 : x.b = ms[k].b) (h3 : x.c = ms[k].c) (h4 : x.n = ms[k].n) (h5 : x.m = ms[k].m) : (cellsL ms).set (k * 6) (.int .u8 x.kind) = cellsL (ms.set k x) := by
  unfold cellsL
  have h6 : ∀ r ∈ ms.map Msh.cells, r.length = 6 := by simp [Msh.cells]
  have h6' : ∀ r ∈ (ms.set k x).map Msh.cells, r.length = 6 := fun r hr => by
    obtain ⟨x, _, rfl⟩ := List.mem_map.1 hr
    simp [Msh.cells]
  have hl := flatten_len 6 _ h6
  have hl' := flatten_len 6 _ h6'
  simp only [List.length_map, List.length_set] at hl hl'
  apply List.ext_getElem?
  intro j
  by_cases hj : j < ms.length * 6
  · have e : j = j / 6 * 6 + j % 6 := by omega
    have hd : j / 6 < ms.length := by omega
    have g2 := flatten_get 6 _ h6' (j / 6) (j % 6) (by omega) (by simpa using hd)
    have g1 := flatten_get 6 _ h6 (j / 6) (j % 6) (by omega) (by simpa using hd)
    rw [← e] at g1 g2
    rw [g2, List.getElem?_set]
    by_cases e1 : k = j / 6
    · subst e1
      by_cases e2 : j % 6 = 0
      · rw [if_pos (by omega), if_pos (by omega)]
        rw [e2]
        simp [Msh.cells]
      · rw [if_neg (by omega), g1]
        have hm : j % 6 = 1 ∨ j % 6 = 2 ∨ j % 6 = 3 ∨ j % 6 = 4 ∨ j % 6 = 5 := by omega
        rcases hm with h | h | h | h | h <;> rw [h] <;> simp [Msh.cells, h1, h2, h3, h4, h5]
    · rw [if_neg (by omega), g1]
      simp [e1]
  · rw [List.getElem?_eq_none (by rw [List.length_set]; omega), List.getElem?_eq_none (by omega)]

theorem MRow.setCell {w : World} {h : Nat} {ms : List Msh} (hm : MRow w (some ⟨h, 0, none⟩) ms) {p : Addr} (hp : p.block ≠ h) (u : Value) : MRow (w.setCell p u) (some ⟨h, 0, none⟩) ms := fun k hk => by
  obtain ⟨ad, e, hc⟩ := hm k hk
  refine ⟨ad, e, ?_⟩
  have e := Option.some.inj e
  subst e
  have hadd : (⟨h, 0, none⟩ : Addr).add k = ⟨h, k, none⟩ := by unfold Addr.add; split <;> simp_all
  rw [hadd] at hc ⊢
  rw [World.cell?_setCell_other _ _ _ _ (by first | (simp; omega) | (simp; exact fun e => absurd e hp) | (intro e; exact absurd (congrArg Addr.block e) hp))]
  exact hc

set_option maxRecDepth 100000 in
theorem great_any (A : Option Addr) (c m : Nat) (s : Int) (w : World) :
    Calls Try.prog 21 #[.agg #[.int .i64 s, .slice A m c]] w fun e w' => e = .returned (.bool (decide ((30 : Int) < (m : Int)))) ∧ Ext w w' := by
  go_enter Try.func21, Try.ntmps21
  go_wp2
  go_ret
  exact ⟨rfl, by simp⟩
end Go.Proofs.Ytbclbcldplmppaa

/- GearTrains: the law's own walk. -/
namespace Go.Proofs.Ytbclbcldplmppaa
open Go.RowKit

/-- What the region's calls hand back. -/
def lawS (e : Int) (j1 : Nat) (j : Nat) (v : Value) : Prop := v = bif j == j1 then .bool true else .int .i64 e

theorem slipL_len (s : Int) (ms : List Msh) (i : Int) : (slipL s ms i).length ≤ ms.length := by
  unfold slipL
  split
  · rw [natI_len]
    cases h : slipO ms s.toNat i.toNat with
    | none => simp
    | some l =>
      obtain ⟨n, hn, h⟩ := List.exists_of_findSome?_eq_some h
      have := (chooseL_mem _ _ _ _ h).2.1
      have hn := List.mem_range.1 hn
      simp at this ⊢
      omega
  · simp
theorem eqL_len (s : Int) (ms : List Msh) (k : Int) : (eqL s ms k).length ≤ 8 := by
  unfold eqL
  split
  · rename_i ht
    have ht : trainP s ms := of_decide_eq_true ht
    have := ht.2.1
    split
    · rw [facS_length]; omega
    · simp
  · simp

/-- Two cells of the call's own struct, and where they lie. -/
theorem store2 {w0 w : World} {g : Nat} {u0 u1 x0 x1 : Value} (he : Ext w0 w) (hg : w0.heap.size ≤ g) (c0 : w.cell? ⟨g, 0, none⟩ = some u0) (c1 : w.cell? ⟨g, 1, none⟩ = some u1) :
    Ext w0 ((w.setCell ⟨g, 0, none⟩ x0).setCell ⟨g, 1, none⟩ x1) ∧ ((w.setCell ⟨g, 0, none⟩ x0).setCell ⟨g, 1, none⟩ x1).cell? ⟨g, 0, none⟩ = some x0 ∧ ((w.setCell ⟨g, 0, none⟩ x0).setCell ⟨g, 1, none⟩ x1).cell? ⟨g, 1, none⟩ = some x1 := by
  refine ⟨(he.setCell (p := ⟨g, 0, none⟩) hg x0).setCell (p := ⟨g, 1, none⟩) hg x1, ?_, ?_⟩
  · rw [World.cell?_setCell_other _ _ _ _ (by simp)]
    exact World.cell?_setCell_same _ _ _ c0
  · exact World.cell?_setCell_same _ _ _ (u := u1) (by rw [World.cell?_setCell_other _ _ _ _ (by simp)]; exact c1)

set_option maxRecDepth 100000 in
set_option maxHeartbeats 8000000 in
theorem trains_law (A : Option Addr) (c : Nat) (s : Int) (ms : List Msh) (mesh : Int) (B : Option Addr) (d : Nat) (all : List Int) (i : Int) (w : World) (hA : MRow w A ms) (hB : Ints w B all) :
    Calls Try.prog 4 #[.agg #[.int .i64 s, .slice A ms.length c], .int .i64 mesh, .slice B all.length d, .int .i64 i] w fun e w' => e = .returned (.bool true) ∧ Ext w w' := by
  have hg := fun (w' : World) => great_any A c ms.length s w'
  by_cases g1 : 30 < ms.length
  · have e1 : decide ((30 : Int) < (ms.length : Int)) = true := by simp; omega
    rw [e1] at hg
    have Hg := Lib.hid hg
    clear hg hA hB e1
    generalize ms.length = m at *
    generalize all.length = q at *
    go_enter Try.func4, Try.ntmps4
    go_wp2_with (first
      | (go_at_call 21; refine (Hg.out _).mono ?_; rintro e w1 ⟨rfl, hx1⟩))
    go_ret
    exact ⟨rfl, Ext.trans (by simp) hx1⟩
  have e1 : decide ((30 : Int) < (ms.length : Int)) = false := by simp; omega
  rw [e1] at hg
  have Hg := Lib.hid hg
  clear hg e1
  by_cases g2 : 60 < all.length
  · clear hA hB
    generalize ms.length = m at *
    generalize all.length = q at *
    go_enter Try.func4, Try.ntmps4
    go_wp2_with (first
      | (go_at_call 21; refine (Hg.out _).mono ?_; rintro e w1 ⟨rfl, hx1⟩))
    go_ret
    exact ⟨rfl, Ext.trans (by simp) hx1⟩
  have hl : ms.length ≤ 30 := by omega
  have hl2 : all.length ≤ 60 := by omega
  have c22 := fun (A' : Option Addr) (c' : Nat) (w' : World) (h : MRow w' A' ms) => equation_train A' c' s ms mesh w' h (by omega)
  have c23 := fun (A' : Option Addr) (c' : Nat) (w' : World) (h : MRow w' A' ms) => equation_ref A' c' s ms mesh w' h (by omega)
  have c24 := fun (A' : Option Addr) (c' : Nat) (w' : World) (h : MRow w' A' ms) => check_any A' c' s ms w' h (by omega)
  have c25 := fun (A' : Option Addr) (c' : Nat) (w' : World) (h : MRow w' A' ms) => check_ref A' c' s ms w' h (by omega)
  have c26 := fun (A' : Option Addr) (c' : Nat) (w' : World) (h : MRow w' A' ms) => free_any A' c' s ms w' h (by omega)
  have c27 := fun (A' : Option Addr) (c' : Nat) (w' : World) (h : MRow w' A' ms) => free_ref A' c' s ms w' h (by omega)
  have c28 := fun (A' : Option Addr) (c' : Nat) (w' : World) (h : MRow w' A' ms) (he : Ext w w') => open_train A' c' s ms B d all w' h (hB.ext he) (by omega) (by omega)
  have c29 := fun (A' : Option Addr) (c' : Nat) (w' : World) (h : MRow w' A' ms) (he : Ext w w') => open_ref A' c' s ms B d all w' h (hB.ext he) (by omega) (by omega)
  have c31 := fun (A' : Option Addr) (c' : Nat) (w' : World) (h : MRow w' A' ms) => slips_any A' c' s ms i w' h (by omega)
  have c32 := fun (A' : Option Addr) (c' : Nat) (w' : World) (h : MRow w' A' ms) => slips_ref A' c' s ms i w' h (by omega)
  have csm := fun (A' B' : Option Addr) (c' d' : Nat) (w' : World) (h : MRow w' A' ms) (h' : MRow w' B' ms) => same_train A' B' c' d' s ms w' h h' (by omega)
  have hol : (opL s ms all).length ≤ 30 := by
    unfold opL
    split
    · exact Nat.le_trans (keepL_le _ _ _) hl
    · simp
  have cso := fun (A' B' : Option Addr) (c' d' : Nat) (w' : World) (h : MRow w' A' (opL s ms all)) (h' : MRow w' B' (opL s ms all)) => same_train A' B' c' d' (opS s ms all) (opL s ms all) w' h h' (by omega)
  have hle := eqL_len s ms mesh
  have hls := slipL_len s ms i
  have sie := fun (A' B' : Option Addr) (c' d' : Nat) (w' : World) (h : Ints w' A' (eqL s ms mesh)) (h' : Ints w' B' (eqL s ms mesh)) => same_ints A' B' c' d' _ _ w' h h' (by omega)
  have sis := fun (A' B' : Option Addr) (c' d' : Nat) (w' : World) (h : Ints w' A' (slipL s ms i)) (h' : Ints w' B' (slipL s ms i)) => same_ints A' B' c' d' _ _ w' h h' (by omega)
  have same_refl : ∀ xs : List Int, sameB xs xs = true := fun xs => decide_eq_true rfl
  simp only [same_refl] at sie sis
  have cap := fun (b : Nat) (w' : World) (hb : w'.heap[b]? = some (.cells #[] 57)) (he : Ext w w') => app_mesh (c := c) (ms := ms) 39 hb (hA.ext he) (by omega)
  have hA' := fun (w' : World) (he : Ext w w') => hA.ext he
  have H22 := Lib.hid c22
  have H23 := Lib.hid c23
  have H24 := Lib.hid c24
  have H25 := Lib.hid c25
  have H26 := Lib.hid c26
  have H27 := Lib.hid c27
  have H28 := Lib.hid c28
  have H29 := Lib.hid c29
  have H31 := Lib.hid c31
  have H32 := Lib.hid c32
  have Hsm := Lib.hid csm
  have Hso := Lib.hid cso
  have Hie := Lib.hid sie
  have His := Lib.hid sis
  have Hcap := Lib.hid cap
  have HA := Lib.hid hA'
  clear c22 c23 c24 c25 c26 c27 c28 c29 c31 c32 csm cso sie sis cap hA' same_refl hA hB g1 g2 hle hls
  generalize eqL s ms mesh = Le at *
  generalize eqE s ms mesh = Ee at *
  generalize trainE s ms = Et at *
  generalize freeS s ms = Fr at *
  generalize opS s ms all = oS at *
  generalize opL s ms all = oL at *
  generalize opE s ms all = oE at *
  generalize slipL s ms i = Ls at *
  generalize slipX s ms i = Es at *
  generalize all.length = q at *
  obtain ⟨m, hm⟩ : ∃ m, m = ms.length := ⟨_, rfl⟩
  simp only [← hm] at H22 H23 H24 H25 H26 H27 H28 H29 H31 H32 Hsm Hcap Hg hl ⊢
  clear hm
  go_enter Try.func4, Try.ntmps4
  have t0 : ∀ w', Ext (w.alloc (.cells #[.int .i64 s, .slice A m c] 41)) w' → w'.cell? ⟨w.heap.size, 0, none⟩ = some (.int .i64 s) := fun w' he => he.cell (by simp)
  have t1 : ∀ w', Ext (w.alloc (.cells #[.int .i64 s, .slice A m c] 41)) w' → w'.cell? ⟨w.heap.size, 1, none⟩ = some (.slice A m c) := fun w' he => he.cell (by simp)
  have hxb : Ext w (w.alloc (.cells #[.int .i64 s, .slice A m c] 41)) := by simp
  go_wp2_with (first
    | (go_at_call 21; refine (Hg.out _).mono ?_; rintro e w1 ⟨rfl, hx1⟩))
  generalize w.alloc (.cells #[.int .i64 s, .slice A m c] 41) = wb at *
  have hx := hxb.trans hx1
  have t0 : ∀ w', Ext w1 w' → _ := fun w' he => t0 w' (hx1.trans he)
  have t1 : ∀ w', Ext w1 w' → _ := fun w' he => t1 w' (hx1.trans he)
  clear hx1 hxb Hg
  generalize w.heap.size = bt at *
  -- the copy
  refine Cf.wp_region_calm (p := Cf.extPre) (fr := fun _ => false) 8 (fun _ _ _ _ => True) (fun _ _ _ _ _ _ h => h) (by kernel_rfl) (by kernel_rfl) ?_
  simp only [List.take_succ_cons, List.take_zero, List.drop_succ_cons, List.drop_zero]
  refine Cf.calm_quiet Cf.calm_mono_final w1 (fun _ h => h) 2 (by kernel_rfl) ?_
  simp only [List.take_succ_cons, List.take_zero, List.drop_succ_cons, List.drop_zero]
  repeat (go_big_quiet_step (fail))
  refine wpQuiet_nil ?_
  refine Cf.calm_value Cf.calm_mono_final (fun v w => ∃ b, v = .slice (some ⟨b, 0, none⟩) 0 0 ∧ w.heap[b]? = some (Obj.cells #[] 57)) (fun _ w' w'' hR ⟨b, e, hh⟩ => ⟨b, e, (show Ext w' w'' from hR).heap hh⟩) rfl (fun w' hR _ => ⟨.slice (some ⟨w'.heap.size, 0, none⟩) 0 0, w'.alloc (.cells #[] 57), by go_simp, (Ext.refl w').alloc _, ⟨_, rfl, heap_alloc_new _ _⟩, fun hf => by cases hf⟩) ?_
  rintro v2 _ _ ⟨b2, rfl, _⟩ _
  simp only [Act.put, List.setIfInBounds_toArray, List.set_cons_succ, List.set_cons_zero]
  refine Cf.calm_quiet Cf.calm_mono_final w1 (fun _ h => h) 2 (by kernel_rfl) ?_
  simp only [List.take_succ_cons, List.take_zero, List.drop_succ_cons, List.drop_zero]
  repeat (go_big_quiet_step (fail))
  refine wpQuiet_nil ?_
  refine Cf.calm_value Cf.calm_mono_final (fun v w => ∃ h c' cs, v = .slice (some ⟨h, 0, none⟩) m c' ∧ MRow w (some ⟨h, 0, none⟩) ms ∧ w.heap[h]? = some (Obj.cells cs 57)) (fun _ w' w'' hR ⟨h, c', cs, e, h1, h2⟩ => ⟨h, c', cs, e, h1.ext hR, (show Ext w' w'' from hR).heap h2⟩) rfl (fun w' hR hf => ?_) ?_
  · obtain ⟨b', eb, hb2⟩ := (hf 2 (by kernel_rfl)).2 rfl
    simp only [Value.slice.injEq, Option.some.injEq, Addr.mk.injEq, and_true] at eb
    subst eb
    obtain ⟨h, c', cs, w'', hr, hx2, hm2, hh⟩ := Hcap.out b2 w' hb2 (hx.trans hR)
    exact ⟨_, w'', exec_append _ _ 39 rfl rfl rfl hr, hx2, ⟨h, c', cs, rfl, hm2, hh⟩, fun hf => by cases hf⟩
  rintro v5 _ _ ⟨h5, c5, _, rfl, _, _⟩ _
  simp only [Act.put, List.setIfInBounds_toArray, List.set_cons_succ, List.set_cons_zero]
  refine Cf.calm_value Cf.calm_mono_final (fun v _ => v = .agg #[.int .i64 s, .slice (some ⟨h5, 0, none⟩) m c5]) (fun _ _ _ _ h => h) rfl (fun w' he hf => ⟨_, w', by go_simp, Ext.refl _, rfl, fun hf => by cases hf⟩) ?_
  rintro v6 _ _ rfl _
  simp only [Act.put, List.setIfInBounds_toArray, List.set_cons_succ, List.set_cons_zero]
  refine Cf.calm_value Cf.calm_mono_final (fun v w => ∃ g, v = .pointer (some ⟨g, 0, none⟩) ∧ w1.heap.size ≤ g ∧ w.heap[g]? = some (Obj.cells #[.int .i64 0, .slice none 0 0] 41)) (fun _ w' w'' hR ⟨b, e, hb, hh⟩ => ⟨b, e, hb, (show Ext w' w'' from hR).heap hh⟩) rfl (fun w' hR _ => ⟨.pointer (some ⟨w'.heap.size, 0, none⟩), w'.alloc (.cells #[.int .i64 0, .slice none 0 0] 41), by go_simp, (Ext.refl w').alloc _, ⟨_, rfl, (show Ext w1 w' from hR).le, heap_alloc_new _ _⟩, fun hf => by cases hf⟩) ?_
  rintro v7 _ _ ⟨g7, rfl, _, _⟩ _
  simp only [Act.put, List.setIfInBounds_toArray, List.set_cons_succ, List.set_cons_zero]
  refine Cf.calm_nil fun w3 hx3 hF => ?_
  have hx3 : Ext w1 w3 := hx3
  obtain ⟨_, _, cs5, e5, hmr, hh5⟩ := (hF.1 5).1.1.2 rfl
  simp only [Value.slice.injEq, Option.some.injEq, Addr.mk.injEq, and_true, true_and] at e5
  obtain ⟨rfl, rfl⟩ := e5
  obtain ⟨_, e7, hg7, hh7⟩ := (hF.1 7).2 rfl
  simp only [Value.pointer.injEq, Option.some.injEq, Addr.mk.injEq, and_true] at e7
  subst e7
  clear hF
  have hne : g7 ≠ h5 := fun e => by rw [e, hh5] at hh7; simp at hh7
  have k0 : w3.cell? ⟨g7, 0, none⟩ = some (.int .i64 0) := by rw [cell_heap hh7]; rfl
  have k1 : w3.cell? ⟨g7, 1, none⟩ = some (.slice none 0 0) := by rw [cell_heap hh7]; rfl
  have kf0 : w3.frozen? ⟨g7, 0, none⟩ = false := by simp [World.frozen?, hh7]
  have kf1 : w3.frozen? ⟨g7, 1, none⟩ = false := by simp [World.frozen?, hh7]
  obtain ⟨hx4, o0, o1⟩ := store2 (x0 := .int .i64 s) (x1 := .slice (some ⟨h5, 0, none⟩) m c5) hx3 hg7 k0 k1
  have hm4 := (hmr.setCell (p := ⟨g7, 0, none⟩) hne (.int .i64 s)).setCell (p := ⟨g7, 1, none⟩) hne (.slice (some ⟨h5, 0, none⟩) m c5)
  have o0 := Ext.cells o0
  have o1 := Ext.cells o1
  have Hm4 := Lib.hid hm4
  have Hx4 := Lib.hid (hx.trans hx4)
  have t0 : ∀ w', Ext ((w3.setCell ⟨g7, 0, none⟩ (.int .i64 s)).setCell ⟨g7, 1, none⟩ (.slice (some ⟨h5, 0, none⟩) m c5)) w' → _ := fun w' he => t0 w' (hx4.trans he)
  have t1 : ∀ w', Ext ((w3.setCell ⟨g7, 0, none⟩ (.int .i64 s)).setCell ⟨g7, 1, none⟩ (.slice (some ⟨h5, 0, none⟩) m c5)) w' → _ := fun w' he => t1 w' (hx4.trans he)
  clear hm4 hx4 hmr hne hh5 hh7 hx hx3
  go_wp2_with (first
    | (go_at_call 22; refine (H22.out _ c5 _ Hm4.out).mono ?_; rintro e w5 ⟨A5, d5, rfl, hi5, hx5⟩)
    | (go_at_call 23; refine (H23.out A c _ (HA.out _ (Hx4.out.trans hx5))).mono ?_; rintro e w6 ⟨A6, d6, rfl, hi6, hx6⟩))
  generalize (w3.setCell ⟨g7, 0, none⟩ (.int .i64 s)).setCell ⟨g7, 1, none⟩ (.slice (some ⟨h5, 0, none⟩) m c5) = w4 at *
  have hx46 := hx5.trans hx6
  have t0 : ∀ w', Ext w6 w' → _ := fun w' he => t0 w' (hx46.trans he)
  have t1 : ∀ w', Ext w6 w' → _ := fun w' he => t1 w' (hx46.trans he)
  have o0 : ∀ w', Ext w6 w' → _ := fun w' he => o0 w' (hx46.trans he)
  have o1 : ∀ w', Ext w6 w' → _ := fun w' he => o1 w' (hx46.trans he)
  have csame := fun (w' : World) (he : Ext w6 w') => Hie.out A5 A6 d5 d6 w' (hi5.ext (hx6.trans he)) (hi6.ext he)
  have cck := fun (w' : World) (he : Ext w6 w') => H24.out (some ⟨h5, 0, none⟩) c5 w' (Hm4.out.ext (hx46.trans he))
  have cckr := fun (w' : World) (he : Ext w6 w') => H25.out A c w' (HA.out w' (Hx4.out.trans (hx46.trans he)))
  have Csame := Lib.hid csame
  have Cck := Lib.hid cck
  have Cckr := Lib.hid cckr
  have Hm6 := Lib.hid (Hm4.out.ext hx46)
  have Hx6 := Lib.hid (Hx4.out.trans hx46)
  clear csame cck cckr hi5 hi6 hx5 hx6 hx46 k0 k1 kf0 kf1 hg7
  generalize Le.length = nle at *
  refine wp_region_calm 16 (fun j _ v _ => lawS Et 2 j v) (fun _ _ _ _ _ _ h => h) (by kernel_rfl) (by kernel_rfl) ?_
  simp only [List.take_succ_cons, List.take_zero, List.drop_succ_cons, List.drop_zero]
  refine calm_quiet calm_mono_final 2 (by kernel_rfl) ?_
  simp only [List.take_succ_cons, List.take_zero, List.drop_succ_cons, List.drop_zero]
  repeat (go_big_quiet_step (fail))
  refine wpQuiet_nil ?_
  refine calm_call calm_mono_final 16 #[.slice A5 nle d5, .slice A6 nle d6] rfl (fun w => ?_) (fun w' he _ => ?_) ?_
  · go_simp
  · exact (Csame.out w' he).mono fun e w'' ⟨he', hx⟩ => ⟨_, he', hx, rfl⟩
  intro v _ _ hv
  have hv' : v = .bool true := hv
  clear hv
  subst hv'
  simp only [Act.put, List.setIfInBounds_toArray, List.set_cons_succ, List.set_cons_zero]
  refine calm_quiet calm_mono_final 8 (by kernel_rfl) ?_
  simp only [List.take_succ_cons, List.take_zero, List.drop_succ_cons, List.drop_zero]
  repeat (go_big_quiet_step (fail))
  refine wpQuiet_nil ?_
  refine calm_call calm_mono_final 24 #[.agg #[.int .i64 s, .slice (some ⟨h5, 0, none⟩) m c5]] rfl (fun w => ?_) (fun w' he _ => ?_) ?_
  · go_simp
  · exact (Cck.out w' he).mono fun e w'' ⟨he', hx⟩ => ⟨_, he', hx, rfl⟩
  intro v _ _ hv
  have hv' : v = .int .i64 Et := hv
  clear hv
  subst hv'
  simp only [Act.put, List.setIfInBounds_toArray, List.set_cons_succ, List.set_cons_zero]
  refine calm_quiet calm_mono_final 1 (by kernel_rfl) ?_
  simp only [List.take_succ_cons, List.take_zero, List.drop_succ_cons, List.drop_zero]
  repeat (go_big_quiet_step (fail))
  refine wpQuiet_nil ?_
  refine calm_call calm_mono_final 25 #[.agg #[.int .i64 s, .slice A m c]] rfl (fun w => ?_) (fun w' he _ => ?_) ?_
  · go_simp
  · exact (Cckr.out w' he).mono fun e w'' ⟨he', hx⟩ => ⟨_, he', hx, rfl⟩
  intro v _ _ hv
  have hv' : v = .int .i64 Et := hv
  clear hv
  subst hv'
  simp only [Act.put, List.setIfInBounds_toArray, List.set_cons_succ, List.set_cons_zero]
  refine calm_quiet calm_mono_final 2 (by kernel_rfl) ?_
  simp only [List.take_succ_cons, List.take_zero, List.drop_succ_cons, List.drop_zero]
  repeat (go_big_quiet_step (fail))
  refine wpQuiet_nil ?_
  refine calm_nil fun w7 hx7 _ => ?_
  have Hm7 := Lib.hid (Hm6.out.ext hx7)
  have Hx7 := Lib.hid (Hx6.out.trans hx7)
  have t0 : ∀ w', Ext w7 w' → _ := fun w' he => t0 w' (hx7.trans he)
  have t1 : ∀ w', Ext w7 w' → _ := fun w' he => t1 w' (hx7.trans he)
  have o0 : ∀ w', Ext w7 w' → _ := fun w' he => o0 w' (hx7.trans he)
  have o1 : ∀ w', Ext w7 w' → _ := fun w' he => o1 w' (hx7.trans he)
  clear hx7
  go_wp2_with (first
    | (go_at_call 26; refine (H26.out _ c5 _ Hm7.out).mono ?_; rintro e w8 ⟨rfl, hx8⟩)
    | (go_at_call 27; refine (H27.out A c _ (HA.out _ (Hx7.out.trans hx8))).mono ?_; rintro e w9 ⟨rfl, hx9⟩; have hx79 := hx8.trans hx9)
    | (go_at_call 28; refine (H28.out _ c5 _ (Hm7.out.ext hx79) (Hx7.out.trans hx79)).mono ?_; rintro e w10 ⟨v10, rfl, hownx⟩; obtain ⟨Ax, cx, rfl⟩ := hownx.form; have hx10 := hownx.ext; have hx710 := hx79.trans hx10; have x0 := cells_one (w := w10) (t := 41) (cs := #[.int .i64 oS, .slice Ax oL.length cx]) (j := 0) rfl; have x1 := cells_one (w := w10) (t := 41) (cs := #[.int .i64 oS, .slice Ax oL.length cx]) (j := 1) rfl)
    | (go_at_call 29; refine (H29.out A c _ (HA.out _ (Hx7.out.trans (hx710.trans ((Ext.refl w10).alloc _)))) (Hx7.out.trans (hx710.trans ((Ext.refl w10).alloc _)))).mono ?_; rintro e w11 ⟨v11, rfl, howny⟩; obtain ⟨Ay, cy, rfl⟩ := howny.form; have hx11 := howny.ext)
    | (go_at_call 30; refine (Hso.out Ax Ay cx cy _ (hownx.mrow.ext (((Ext.refl w10).alloc _).trans (hx11.alloc _))) (howny.mrow.ext ((Ext.refl w11).alloc _))).mono ?_; rintro e w13 ⟨rfl, hx13⟩; have hx1013 := (hx11.alloc (.cells #[.int .i64 oS, .slice Ay oL.length cy] 41)).trans hx13))
  have hx1013' := ((Ext.refl w10).alloc (.cells #[.int .i64 oS, .slice Ax oL.length cx] 41)).trans hx1013
  have hown13 := hownx.later hx1013'
  have hc13 := x1 w13 hx1013
  have hlt10 : ∀ g, (Value.slice Ax oL.length cx).ownBlock = some g → g < w10.heap.size := fun g hg => (hownx.2.lt g hg).2
  have Hlt10 := Lib.hid hlt10
  have Hx79 := Lib.hid hx79
  have T0 := Lib.hid t0
  have T1 := Lib.hid t1
  have O0 := Lib.hid o0
  have O1 := Lib.hid o1
  have hbig : oL.length ≤ 30 := hol
  clear hlt10 hx1013' hownx howny x0 x1 hx8 hx9 hx10 hx11 hx13 hx1013 hx79 hx710 t0 t1 o0 o1 hol
  obtain ⟨nx, hnx⟩ : ∃ nx, nx = oL.length := ⟨_, rfl⟩
  rw [← hnx] at hown13 hc13 Hlt10 hbig
  simp only [← hnx]
  have hstart : ∃ l' : List Msh, l'.length = nx ∧ Own w9 w13 57 6 (.slice Ax nx cx) nx (cellsL l') := ⟨oL, hnx.symm, hown13⟩
  have Hstart := Lib.hid hstart
  have Hc13 := Lib.hid hc13
  clear hnx hown13 hstart hc13
  generalize w10.heap.size = g16 at *
  go_loopw [105] (fun i wr => ∃ k : Nat, k ≤ nx ∧ i = .int .i64 k ∧ (∃ l' : List Msh, l'.length = nx ∧ Own w9 wr 57 6 (.slice Ax nx cx) nx (cellsL l')) ∧ wr.cell? ⟨g16, 1, none⟩ = some (.slice Ax nx cx)) (fun i _ => nx - (intOf i).toNat)
  case atStart => exact ⟨0, by omega, rfl, Hstart.out, Hc13.out⟩
  case round =>
    obtain ⟨k, hk, rfl, ⟨l', hl', hown⟩, hc⟩ := hrel
    by_cases hlt : k < nx
    · obtain ⟨gv, cv, ev, _, _⟩ := hown.at_ (by omega)
      simp only [Value.slice.injEq, true_and] at ev
      obtain ⟨rfl, rfl⟩ := ev
      have hgv : gv < g16 := Hlt10.out gv rfl
      have hk' : k < l'.length := by rw [hl']; exact hlt
      have hfl : (cellsL l').length = nx * 6 := by rw [← hl']; have := flatten_len 6 (l'.map Msh.cells) (by simp [Msh.cells]); simpa [cellsL] using this
      have hck : wr.cell? ⟨gv, k * 6, none⟩ = some (.int .u8 l'[k].kind) := by
        rw [hown.cell (by omega)]
        have h6 : ∀ r ∈ l'.map Msh.cells, r.length = 6 := by simp [Msh.cells]
        have := flatten_get 6 _ h6 k 0 (by omega) (by simpa using hk')
        rw [Nat.add_zero] at this
        unfold cellsL
        rw [this]
        simp [Msh.cells]
      have hfz := hown.free (k * 6)
      have ea : (⟨gv, 0, none⟩ : Addr).add (k * 6) = ⟨gv, k * 6, none⟩ := by unfold Addr.add; split <;> simp_all
      have hki : (k : Int) < (nx : Int) := by omega
      have hset := cellsL_kind l' k hk' ⟨IntKind.u8.wrap (l'[k].kind + 1), l'[k].a, l'[k].b, l'[k].c, l'[k].n, l'[k].m⟩ rfl rfl rfl rfl rfl
      have Hst := Lib.hid (hown.store (k * 6) (.int .u8 (IntKind.u8.wrap (l'[k].kind + 1))))
      have Hset := Lib.hid hset
      have Hcc := Lib.hid hc
      have hgne : ¬ gv = g16 := by omega
      have Hgne := Lib.hid hgne
      clear hset hown hfl hgv hgne T0 T1 O0 O1
      generalize l'[k].kind = kind at *
      go_wp2
      go_roundw
      case rel => exact ⟨k + 1, by omega, by go_num, ⟨l'.set k ⟨IntKind.u8.wrap (kind + 1), l'[k].a, l'[k].b, l'[k].c, l'[k].n, l'[k].m⟩, by rw [List.length_set]; exact hl', by rw [← Hset.out]; exact Hst.out⟩, by
        rw [World.cell?_setCell_other _ _ _ _ (by intro e; exact Hgne.out (congrArg Addr.block e))]
        exact Hcc.out⟩
      case measure => simp [intOf]; omega
    · obtain rfl : k = nx := by omega
      have hx14 := Hx79.out.trans hown.ext
      have t0 := fun w' he => T0.out w' (hx14.trans he)
      have t1 := fun w' he => T1.out w' (hx14.trans he)
      have o0 := fun w' he => O0.out w' (hx14.trans he)
      have o1 := fun w' he => O1.out w' (hx14.trans he)
      have hm14 := Hm7.out.ext hx14
      have hw14 := Hx7.out.trans hx14
      have Hm14 := Lib.hid hm14
      have Hw14 := Lib.hid hw14
      clear hm14 hw14 hx14 hown Hlt10 Hstart T0 T1 O0 O1
      go_wp2_with (first
        | (go_at_call 31; refine (H31.out _ c5 _ Hm14.out).mono ?_; rintro e w15 ⟨A15, d15, rfl, hi15, hx15⟩)
        | (go_at_call 32; refine (H32.out A c _ (HA.out _ (Hw14.out.trans hx15))).mono ?_; rintro e w16 ⟨A16, d16, rfl, hi16, hx16⟩; have hx1416 := hx15.trans hx16)
        | (go_at_call 16; refine (His.out A15 A16 d15 d16 _ (hi15.ext hx16) hi16).mono ?_; rintro e w17 ⟨rfl, hx17⟩; have hx1417 := hx1416.trans hx17)
        | (go_at_call 30; refine (Hsm.out (some ⟨h5, 0, none⟩) A c5 c _ (Hm14.out.ext hx1417) (HA.out _ (Hw14.out.trans hx1417))).mono ?_; rintro e w18 ⟨rfl, hx18⟩))
      go_ret
      exact ⟨rfl, Hw14.out.trans (hx1417.trans hx18)⟩
end Go.Proofs.Ytbclbcldplmppaa
