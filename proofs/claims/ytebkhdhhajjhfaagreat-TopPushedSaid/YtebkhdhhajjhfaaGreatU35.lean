/- Ways: which way a brick of a model at rest can be pushed off. -/
import Derived.Test.YtebkhdhhajjhfaaGreatU34
import Derived.Test.YtebkhdhhajjhfaaGreatU29
import Derived.Test.YtebkhdhhajjhfaaGreatU01
import Derived.Test.YtebkhdhhajjhfaaGreatU02
namespace Go.Proofs.YtebkhdhhajjhfaaGreat.Lt
open Go Go.RowKit
/-- The choice holds x. -/
def inT (th : List Int) (x : Int) : Prop := ∃ j, j < th.length ∧ getI th j = x
/-- The way of brick b along d, free of the bricks of the choice. -/
def freeT (CL : List (List Ce)) (m : Nat) (gr : Int) (th : List Int) (b d : Nat) : Prop := ∀ t, t < (klA CL b).length → ∀ n, 1 ≤ n → n ≤ 64 → gr ≤ (farC (ceA (klA CL b) t) d n).z ∧ ∀ i, i < m → farC (ceA (klA CL b) t) d n ∈ klA CL i → ¬ inT th (i : Int)
theorem freeT_iff {CL : List (List Ce)} {m : Nat} {gr : Int} {th : List Int} {b d S : Nat} (hm : m ≤ 40) (hS : SetOf th th.length S) : freeP CL m gr S b d ↔ freeT CL m gr th b d := by
  have key : ∀ i, i < m → (S.testBit i = false ↔ ¬ inT th (i : Int)) := fun i hi => by
    have := hS.2 i (by omega)
    rw [Bool.eq_false_iff, Ne, this]
    exact Iff.rfl
  constructor
  · intro h t ht n h1 h2
    obtain ⟨h3, h4⟩ := h t ht n h1 h2
    exact ⟨h3, fun i hi hc => (key i hi).1 (h4 i hi hc)⟩
  · intro h t ht n h1 h2
    obtain ⟨h3, h4⟩ := h t ht n h1 h2
    exact ⟨h3, fun i hi hc => (key i hi).2 (h4 i hi hc)⟩
theorem cl_un {l : List Ki} {ms : List Br} (hv : modelP l ms) : ∀ (i j : Nat) (c : Ce), i < ms.length → j < ms.length → c ∈ klA (ms.map (celB l)) i → c ∈ klA (ms.map (celB l)) j → i = j := by
  have key : ∀ (i j : Nat) (c : Ce), i < j → j < ms.length → c ∈ klA (ms.map (celB l)) i → c ∈ klA (ms.map (celB l)) j → False := fun i j c h1 h2 h3 h4 => by
    rw [cl_at (by omega)] at h3
    rw [cl_at h2] at h4
    exact hv.2 ⟨i, j, h1, h2, c, mem_celB.1 h3, mem_celB.1 h4⟩
  intro i j c hi hj h1 h2
  rcases Nat.lt_trichotomy i j with h | h | h
  · exact (key i j c h hj h1 h2).elim
  · exact h
  · exact (key j i c h hi h2 h1).elim
/-- What Ways asks of its arguments. -/
def goodW (l : List Ki) (ms : List Br) (gr : Int) (fx th : List Int) (bi : Int) : Prop := restP l ms gr fx ∧ chosenP th ms.length th.length ∧ (0 ≤ bi ∧ bi < ms.length) ∧ ¬ inT th bi
def WaysRes (l : List Ki) (ms : List Br) (gr : Int) (fx th : List Int) (bi : Int) (w : World) (e : Ending) (w' : World) : Prop := ∃ (A : Option Addr) (c : Nat) (ds : List Int) (er : Int), e = .returned (.tuple #[.slice A ds.length c, .int .i64 er]) ∧ Ext w w' ∧ (er = 0 ↔ goodW l ms gr fx th bi) ∧ Ints w' A ds ∧ ds.length ≤ 6 ∧
  (er = 0 → (∀ x ∈ ds, ∃ d : Nat, d < 6 ∧ x = (d : Int) ∧ freeT (ms.map (celB l)) ms.length gr th bi.toNat d) ∧ ((∀ i, i < ms.length → (knoB l (brA ms i)).length = 0) → ∀ d : Nat, d < 6 → freeT (ms.map (celB l)) ms.length gr th bi.toNat d → (d : Int) ∈ ds))
theorem WaysRes.no {l : List Ki} {ms : List Br} {gr : Int} {fx th : List Int} {bi : Int} {w w' : World} (h : ¬ goodW l ms gr fx th bi) (he : Ext w w') {er : Int} (h0 : er ≠ 0) : WaysRes l ms gr fx th bi w (.returned (.tuple #[.slice none 0 0, .int .i64 er])) w' := ⟨none, 0, [], er, rfl, he, ⟨fun e => absurd e h0, fun g => absurd g h⟩, Ints.nil _ _, by simp, fun e => absurd e h0⟩
theorem set_no {c : List Int} {n : Nat} {f : Nat} {args : Array Value} {w : World} (h : Calls Tryz.prog f args w (SetRes c n w)) (hn : ¬ chosenP c n c.length) : Calls Tryz.prog f args w fun e w' => ∃ S : Nat, e = .returned (.tuple #[.int .u64 S, .bool false]) ∧ Ext w w' :=
  h.mono fun e w' ⟨S, b, he, h1, h2, h3, h4⟩ => ⟨S, by
    cases b with
    | false => exact he
    | true => exact absurd (h1.1 rfl) hn, h4⟩
theorem set_yes {c : List Int} {n : Nat} {f : Nat} {args : Array Value} {w : World} (h : Calls Tryz.prog f args w (SetRes c n w)) (hn : chosenP c n c.length) : Calls Tryz.prog f args w fun e w' => ∃ S : Nat, e = .returned (.tuple #[.int .u64 S, .bool true]) ∧ Ext w w' ∧ Hid (SetOf c c.length S) :=
  h.mono fun e w' ⟨S, b, he, h1, h2, h3, h4⟩ => by
    obtain rfl := h1.2 hn
    exact ⟨S, he, h4, Lib.hid (h2 rfl)⟩
theorem ways_done {l : List Ki} {ms : List Br} {gr : Int} {fx th : List Int} {b S : Nat} {w w0 w' : World} (hr : restP l ms gr fx) (hch : chosenP th ms.length th.length) (hb : b < ms.length) (hS : SetOf th th.length S) (hn : ¬ inT th (b : Int)) (he : Ext w w') {A : Option Addr} {c : Nat} {ds : List Int} (hO : OwnI w0 w' (.slice A ds.length c) ds) (hw : waysP (ms.map (celB l)) ms.length gr (∀ i, i < ms.length → (knoB l (brA ms i)).length = 0) S b 6 ds) (hl : ds.length ≤ 6) : WaysRes l ms gr fx th (b : Int) w (.returned (.tuple #[.slice A ds.length c, .int .i64 0])) w' := by
  have hm40 : ms.length ≤ 40 := hr.1.1.2.1
  refine ⟨A, c, ds, 0, rfl, he, ⟨fun _ => ⟨hr, hch, ⟨by omega, by omega⟩, hn⟩, fun _ => rfl⟩, OwnI.ints hO, hl, fun _ => ⟨fun x hx => ?_, fun hk d hd hf => ?_⟩⟩
  · obtain ⟨d, h1, h2, h3⟩ := hw.1 x hx
    exact ⟨d, h1, h2, (freeT_iff hm40 hS).1 h3⟩
  · exact hw.2 hk d hd ((freeT_iff hm40 hS).2 hf)
set_option maxRecDepth 100000 in
set_option maxHeartbeats 4000000 in
theorem waysw_any (l : List Ki) (A : Option Addr) (c : Nat) (ms : List Br) (M : Option Addr) (mc : Nat) (gr : Int) (fx : List Int) (F : Option Addr) (fc : Nat) (th : List Int) (H : Option Addr) (hc : Nat) (bi : Int) (w : World) (hA : KiRow w A l) (h8 : kindsW l) (hM : BrRow w M ms) (hbw : bricksW ms) (hF : Ints w F fx) (hfl : fx.length ≤ 1000000) (hg : -9223372036854775808 ≤ gr ∧ gr ≤ 9223372036854775807) (hH : Ints w H th) (hhl : th.length ≤ 1000000) :
    Calls Tryz.prog 10 #[.slice A l.length c, .agg #[.slice M ms.length mc], .agg #[.int .i64 gr, .slice F fx.length fc], .slice H th.length hc, .int .i64 bi] w (WaysRes l ms gr fx th bi w) := by
  have hx1 : Ext w ((w.alloc (.cells #[.slice M ms.length mc] 25)).alloc (.cells #[.int .i64 gr, .slice F fx.length fc] 28)) := ((Ext.refl w).alloc _).alloc _
  have k1 : Blk ((w.alloc (.cells #[.slice M ms.length mc] 25)).alloc (.cells #[.int .i64 gr, .slice F fx.length fc] 28)) w.heap.size [.slice M ms.length mc] := (Blk.new _ _).ext ((Ext.refl _).alloc _)
  have k2 : Blk ((w.alloc (.cells #[.slice M ms.length mc] 25)).alloc (.cells #[.int .i64 gr, .slice F fx.length fc] 28)) (w.heap.size + 1) [.int .i64 gr, .slice F fx.length fc] := Blk.new' (by simp)
  have z0 := k1.at_ 0 rfl
  have z1 := k2.at_ 0 rfl
  have z2 := k2.at_ 1 rfl
  have Hcr := Lib.hid (checkrest_any l A c ms M mc gr fx F fc _ (hA.ext hx1) h8 (hM.ext hx1) hbw (hF.ext hx1) hfl hg)
  have Hx1 := Lib.hid hx1
  by_cases hr : ¬ restP l ms gr fx
  · have Hno := Lib.hid (fun (w' : World) (he : Ext w w') (er : Int) (h0 : er ≠ 0) => WaysRes.no (th := th) (bi := bi) (fun g => hr g.1) he h0)
    have Hr := Lib.hid hr
    clear hA h8 hM hbw hF hH hr k1 k2 hx1
    generalize WaysRes l ms gr fx th bi w = R at *
    generalize restP l ms gr fx = P at *
    generalize ms.length = m at *
    generalize l.length = n at *
    generalize fx.length = f at *
    generalize th.length = t at *
    go_enter Tryz.func10, Tryz.ntmps10
    go_wp2_with (go_at_call 27; refine (Hcr.out).mono ?_; rintro e w2 ⟨b, rfl, hb, he2⟩; have Hbn := Lib.hid (show b ≠ 0 from fun e => Hr.out (hb.1 e)); have hb0 : (b != 0) = true := (by have := Hbn.out; simpa using this); have He2 := Lib.hid he2; clear hb he2 z0 z1 z2)
    exact Hno.out _ (Hx1.out.trans He2.out) b Hbn.out
  have hr := Classical.not_not.1 hr
  have hm40 : ms.length ≤ 40 := hr.1.1.2.1
  have Hcz := Lib.hid (tells_zero Hcr.out hr)
  have HchS := fun w' (he : Ext w w') => chosenS_any th H hc ms.length w' (hH.ext he) hhl (by omega)
  have Hst := Lib.hid (fun w' (he : Ext w w') => start_any l A c ms M mc gr F fx.length fc w' (hA.ext he) h8 (hM.ext he) hbw hr.1)
  have Hwy := Lib.hid (fun (S b : Nat) (hb : b < ms.length) (hS : S < 2 ^ 64) w0 w' p (hP : Plan (ms.map (celB l)) ms.length gr (∀ i, i < ms.length → (knoB l (brA ms i)).length = 0) w0 w' p) => ways_any (ms.map (celB l)) ms.length gr (∀ i, i < ms.length → (knoB l (brA ms i)).length = 0) S b w0 w' p hP (by simp) hm40 hb hS (fun i hi => (cl_len hr.1.1 hi).2) (fun i hi t ht => by
    rw [cl_at hi] at ht ⊢
    rw [ceA_at ht]
    exact celB_near hr.1.1 hi (List.getElem_mem _)) (cl_un hr.1))
  have Hno := Lib.hid (fun (h : ¬ (chosenP th ms.length th.length ∧ (0 ≤ bi ∧ bi < ms.length) ∧ ¬ inT th bi)) (w' : World) (he : Ext w w') => WaysRes.no (l := l) (ms := ms) (gr := gr) (fx := fx) (th := th) (bi := bi) (fun g => h g.2) he (er := 2) (by omega))
  clear hA h8 hM hbw hF hH k1 k2 hx1 Hcr hfl hg
  by_cases hch : ¬ chosenP th ms.length th.length
  · have Hch := Lib.hid (fun w' he => set_no (HchS w' he) hch)
    have Hnn := Lib.hid (Hno.out fun g => hch g.1)
    clear HchS hch Hst Hwy hr hhl Hno
    generalize WaysRes l ms gr fx th bi w = R at *
    generalize ms.length = m at *
    generalize l.length = n at *
    generalize fx.length = f at *
    generalize th.length = t at *
    go_enter Tryz.func10, Tryz.ntmps10
    go_wp2_with (first
      | (go_at_call 27; refine (Hcz.out).mono ?_; rintro e w2 ⟨rfl, he2⟩; have y0 := fun w' he => z0 w' (he2.trans he); have y1 := fun w' he => z1 w' (he2.trans he); have y2 := fun w' he => z2 w' (he2.trans he); have He2 := Lib.hid (Hx1.out.trans he2); clear he2 z0 z1 z2)
      | (go_at_call 28; refine (Hch.out _ He2.out).mono ?_; rintro e w3 ⟨S, rfl, he3⟩; have He3 := Lib.hid (He2.out.trans he3); have x0 := fun w' he => y0 w' (he3.trans he); clear he3 y0 y1 y2))
    exact Hnn.out _ He3.out
  have hch := Classical.not_not.1 hch
  have Hch := Lib.hid (fun w' he => set_yes (HchS w' he) hch)
  by_cases hb0 : bi < 0
  · have Hnn := Lib.hid (Hno.out fun g => absurd g.2.1.1 (by omega))
    clear HchS hch Hst Hwy hr hhl Hno
    generalize WaysRes l ms gr fx th bi w = R at *
    generalize ms.length = m at *
    generalize l.length = n at *
    generalize fx.length = f at *
    generalize th.length = t at *
    go_enter Tryz.func10, Tryz.ntmps10
    go_wp2_with (first
      | (go_at_call 27; refine (Hcz.out).mono ?_; rintro e w2 ⟨rfl, he2⟩; have y0 := fun w' he => z0 w' (he2.trans he); have y1 := fun w' he => z1 w' (he2.trans he); have y2 := fun w' he => z2 w' (he2.trans he); have He2 := Lib.hid (Hx1.out.trans he2); clear he2 z0 z1 z2)
      | (go_at_call 28; refine (Hch.out _ He2.out).mono ?_; rintro e w3 ⟨S, rfl, he3, HS⟩; have He3 := Lib.hid (He2.out.trans he3); have x0 := fun w' he => y0 w' (he3.trans he); have x1 := fun w' he => y1 w' (he3.trans he); have x2 := fun w' he => y2 w' (he3.trans he); clear he3 y0 y1 y2))
    exact Hnn.out _ He3.out
  by_cases hb1 : bi ≥ (ms.length : Int)
  · have Hnn := Lib.hid (Hno.out fun g => absurd g.2.1.2 (by omega))
    clear HchS hch Hst Hwy hr hhl Hno
    generalize WaysRes l ms gr fx th bi w = R at *
    generalize ms.length = m at *
    generalize l.length = n at *
    generalize fx.length = f at *
    generalize th.length = t at *
    go_enter Tryz.func10, Tryz.ntmps10
    go_wp2_with (first
      | (go_at_call 27; refine (Hcz.out).mono ?_; rintro e w2 ⟨rfl, he2⟩; have y0 := fun w' he => z0 w' (he2.trans he); have y1 := fun w' he => z1 w' (he2.trans he); have y2 := fun w' he => z2 w' (he2.trans he); have He2 := Lib.hid (Hx1.out.trans he2); clear he2 z0 z1 z2)
      | (go_at_call 28; refine (Hch.out _ He2.out).mono ?_; rintro e w3 ⟨S, rfl, he3, HS⟩; have He3 := Lib.hid (He2.out.trans he3); have x0 := fun w' he => y0 w' (he3.trans he); have x1 := fun w' he => y1 w' (he3.trans he); have x2 := fun w' he => y2 w' (he3.trans he); clear he3 y0 y1 y2))
    exact Hnn.out _ He3.out
  obtain ⟨b, rfl⟩ : ∃ b : Nat, bi = (b : Int) := ⟨bi.toNat, by omega⟩
  have hbm : b < ms.length := by omega
  have hb64 : b < 64 := by omega
  have Hb64 := Lib.hid hb64
  by_cases hin : inT th (b : Int)
  · have Hnn := Lib.hid (Hno.out fun g => g.2.2 hin)
    have Htb := Lib.hid (show ∀ S, SetOf th th.length S → S.testBit b = true ∧ S < 2 ^ 64 from fun S hS => ⟨(hS.2 b hb64).2 hin, hS.1⟩)
    clear HchS hch Hst Hwy hr hhl hin hbm hb64 Hno
    generalize WaysRes l ms gr fx th (b : Int) w = R at *
    generalize SetOf th th.length = SO at *
    generalize ms.length = m at *
    generalize l.length = n at *
    generalize fx.length = f at *
    generalize th.length = t at *
    go_enter Tryz.func10, Tryz.ntmps10
    go_wp2_with (first
      | (go_at_call 27; refine (Hcz.out).mono ?_; rintro e w2 ⟨rfl, he2⟩; have y0 := fun w' he => z0 w' (he2.trans he); have y1 := fun w' he => z1 w' (he2.trans he); have y2 := fun w' he => z2 w' (he2.trans he); have He2 := Lib.hid (Hx1.out.trans he2); clear he2 z0 z1 z2)
      | (go_at_call 28; refine (Hch.out _ He2.out).mono ?_; rintro e w3 ⟨S, rfl, he3, HS⟩; have He3 := Lib.hid (He2.out.trans he3); have x0 := fun w' he => y0 w' (he3.trans he); have x1 := fun w' he => y1 w' (he3.trans he); have x2 := fun w' he => y2 w' (he3.trans he); clear he3 y0 y1 y2)
      | (go_at_call 29; refine (has_any S b _ (Htb.out S HS.out).2 Hb64.out).mono ?_; rw [(Htb.out S HS.out).1]; rintro e w4 ⟨rfl, rfl⟩))
    exact Hnn.out _ He3.out
  have Htb := Lib.hid (show ∀ S, SetOf th th.length S → S.testBit b = false ∧ S < 2 ^ 64 from fun S hS => ⟨by
    cases h : S.testBit b with
    | false => rfl
    | true => exact absurd ((hS.2 b hb64).1 h) hin, hS.1⟩)
  have Hdo := Lib.hid (fun (S : Nat) (hS : SetOf th th.length S) (w0 w' : World) (he : Ext w w') A c ds hO hw hl => ways_done (fx := fx) (w := w) (w0 := w0) (w' := w') (A := A) (c := c) (ds := ds) hr hch hbm hS hin he hO hw hl)
  have Hbm := Lib.hid hbm
  clear HchS hch hr hhl hin hbm hb64 Hno
  generalize WaysRes l ms gr fx th (b : Int) w = R at *
  generalize SetOf th th.length = SO at *
  generalize (∀ i, i < ms.length → (knoB l (brA ms i)).length = 0) = NK at *
  generalize ms.map (celB l) = CL at *
  generalize ms.length = m at *
  generalize l.length = n at *
  generalize fx.length = f at *
  generalize th.length = t at *
  go_enter Tryz.func10, Tryz.ntmps10
  go_wp2_with (first
    | (go_at_call 27; refine (Hcz.out).mono ?_; rintro e w2 ⟨rfl, he2⟩; have y0 := fun w' he => z0 w' (he2.trans he); have y1 := fun w' he => z1 w' (he2.trans he); have y2 := fun w' he => z2 w' (he2.trans he); have He2 := Lib.hid (Hx1.out.trans he2); clear he2 z0 z1 z2)
    | (go_at_call 28; refine (Hch.out _ He2.out).mono ?_; rintro e w3 ⟨S, rfl, he3, HS⟩; have He3 := Lib.hid (He2.out.trans he3); have x0 := fun w' he => y0 w' (he3.trans he); have x1 := fun w' he => y1 w' (he3.trans he); have x2 := fun w' he => y2 w' (he3.trans he); clear he3 y0 y1 y2)
    | (go_at_call 29; refine (has_any S b _ (Htb.out S HS.out).2 Hb64.out).mono ?_; rw [(Htb.out S HS.out).1]; rintro e w4 ⟨rfl, rfl⟩)
    | (go_at_call 30; refine (Hst.out _ He3.out).mono ?_; rintro e w5 ⟨p, rfl, he5, hP⟩; have HP := Lib.hid hP; have He5 := Lib.hid (He3.out.trans he5); clear he5 hP x0 x1 x2)
    | (go_at_call 31; refine (Hwy.out S b Hbm.out (Htb.out S HS.out).2 _ _ p HP.out).mono ?_; rintro e w6 ⟨QA, qc, ds, rfl, hO, hw, hl⟩; have HO := Lib.hid hO; have HW := Lib.hid hw; have HL := Lib.hid hl; clear hO hw hl))
  exact Hdo.out S HS.out _ _ (He5.out.trans HO.out.ext) QA qc ds HO.out HW.out HL.out
end Go.Proofs.YtebkhdhhajjhfaaGreat.Lt

/- A brick on its way to its place: where it is, the model is right. -/
namespace Go.Proofs.YtebkhdhhajjhfaaGreat.Lt
open Go Go.RowKit
/-- A brick n steps back. -/
def awayB (b : Br) (d n : Nat) : Br := ⟨b.kind, farC b.at_ d n, b.trn, b.col⟩
/-- The bricks of a choice. -/
def nowL (ms : List Br) (th : List Int) : List Br := th.map fun x => brA ms x.toNat
theorem nowL_len (ms : List Br) (th : List Int) : (nowL ms th).length = th.length := by simp [nowL]
theorem placed_far (cs : List Ce) (t : Nat) (o : Ce) (d n : Nat) : placed cs t (farC o d n) = (placed cs t o).map fun c => farC c d n := by
  simp only [placed, List.map_map]
  refine List.map_congr_left fun c _ => ?_
  simp only [Function.comp, farC, plusC, Ce.mk.injEq]
  omega
theorem mem_away {l : List Ki} {b : Br} {d n : Nat} {c : Ce} : c ∈ celB l (awayB b d n) ↔ ∃ c0, c0 ∈ celB l b ∧ c = farC c0 d n := by
  rw [mem_celB]
  show c ∈ placed _ _ (farC b.at_ d n) ↔ _
  rw [placed_far, List.mem_map]
  exact ⟨fun ⟨a, h1, h2⟩ => ⟨a, mem_celB.2 h1, h2.symm⟩, fun ⟨a, h1, h2⟩ => ⟨a, mem_celB.1 h1, h2.symm⟩⟩
theorem chosen_count {th : List Int} {m : Nat} {bi : Int} (h : chosenP th m th.length) (h0 : 0 ≤ bi) (h1 : bi < m) (hn : ¬ inT th bi) : th.length + 1 ≤ m := by
  have key : ∀ j : Nat, j < th.length → (j : Int) ≤ getI th j ∧ (bi < getI th j → (j : Int) + 1 ≤ getI th j) := by
    intro j
    induction j with
    | zero =>
      intro hj
      have := (h 0 hj).1
      omega
    | succ j ih =>
      intro hj
      have ih := ih (by omega)
      have h2 := (h (j + 1) hj).2 (by omega)
      have h3 : getI th j ≠ bi := fun e => hn ⟨j, by omega, e⟩
      simp only [Nat.add_sub_cancel] at h2
      omega
  rcases Nat.eq_zero_or_pos th.length with e | hp
  · omega
  · have h2 := key (th.length - 1) (by omega)
    have h3 : getI th (th.length - 1) ≠ bi := fun e => hn ⟨_, by omega, e⟩
    have h4 := (h (th.length - 1) (by omega)).1
    omega
theorem chosen_asc {th : List Int} {m k : Nat} (h : chosenP th m k) : ∀ j : Nat, j < k → ∀ i : Nat, i < j → getI th i < getI th j := by
  intro j
  induction j with
  | zero => intro _ i hi; omega
  | succ j ih =>
    intro hj i hi
    have h2 := (h (j + 1) hj).2 (by omega)
    simp only [Nat.add_sub_cancel] at h2
    by_cases e : i = j
    · subst e; exact h2
    · have := ih (by omega) i (by omega)
      omega
theorem brA_now {ms : List Br} {th : List Int} {b : Br} {i : Nat} (hi : i < th.length) : brA (nowL ms th ++ [b]) i = brA ms (getI th i).toNat := by
  rw [brA_at (by simp [nowL]; omega), List.getElem_append_left (by simpa [nowL] using hi)]
  simp [nowL, getI, hi]
theorem brA_last {ms : List Br} {th : List Int} {b : Br} : brA (nowL ms th ++ [b]) th.length = b := by
  rw [brA_at (by simp [nowL]), List.getElem_append_right (by simp [nowL])]
  simp [nowL]
theorem now_model {l : List Ki} {ms : List Br} {gr : Int} {fx th : List Int} {bi : Int} {d n : Nat} (hg : goodW l ms gr fx th bi) (hf : freeT (ms.map (celB l)) ms.length gr th bi.toNat d) (hn : n ≤ 64) (hnear : nearP (farC (brA ms bi.toNat).at_ d n) (-1000) 1000) : modelP l (nowL ms th ++ [awayB (brA ms bi.toNat) d n]) := by
  obtain ⟨⟨hv, hgr, hfx, hab⟩, hch, ⟨hb0, hb1⟩, hnin⟩ := hg
  have hcnt := chosen_count hch hb0 hb1 hnin
  have hbl : bi.toNat < ms.length := by omega
  have hin : ∀ i, i < th.length → (getI th i).toNat < ms.length ∧ (((getI th i).toNat : Nat) : Int) = getI th i := fun i hi => by
    have := (hch i hi).1
    omega
  have hm := hv.1.2.1
  refine ⟨⟨hv.1.1, by rw [List.length_append, nowL_len, List.length_singleton]; omega, fun i hi => ?_⟩, ?_⟩
  · rw [List.length_append, nowL_len, List.length_singleton] at hi
    by_cases e : i < th.length
    · rw [brA_now e]
      exact hv.1.2.2 _ (hin i e).1
    · obtain rfl : i = th.length := by omega
      rw [brA_last]
      have h := hv.1.2.2 _ hbl
      exact ⟨h.k0, h.k1, hnear, h.t0, h.t1, h.c0, h.c1⟩
  · rintro ⟨i, j, hij, hj, c, hci, hcj⟩
    rw [List.length_append, nowL_len, List.length_singleton] at hj
    have hi : i < th.length := by omega
    have hci : c ∈ celB l (brA (nowL ms th ++ [awayB (brA ms bi.toNat) d n]) i) := mem_celB.2 hci
    have hcj : c ∈ celB l (brA (nowL ms th ++ [awayB (brA ms bi.toNat) d n]) j) := mem_celB.2 hcj
    rw [brA_now hi] at hci
    by_cases e : j < th.length
    · rw [brA_now e] at hcj
      have h1 := chosen_asc hch j e i hij
      have h2 := hin i hi
      have h3 := hin j e
      exact hv.2 ⟨_, _, by omega, h3.1, c, mem_celB.1 hci, mem_celB.1 hcj⟩
    · obtain rfl : j = th.length := by omega
      rw [brA_last] at hcj
      obtain ⟨c0, hc0, rfl⟩ := mem_away.1 hcj
      have h2 := hin i hi
      by_cases hz : n = 0
      · subst hz
        rw [farC_zero] at hci
        have := cl_un hv _ _ c0 hbl h2.1 (by rw [cl_at hbl]; exact hc0) (by rw [cl_at h2.1]; exact hci)
        exact hnin ⟨i, hi, by omega⟩
      · have hcc : c0 ∈ klA (ms.map (celB l)) bi.toNat := by rw [cl_at hbl]; exact hc0
        obtain ⟨t, ht, rfl⟩ := List.getElem_of_mem hcc
        have := (hf t ht n (by omega) hn).2 _ h2.1 (by rw [ceA_at ht, cl_at h2.1]; exact hci)
        exact this ⟨i, hi, h2.2.symm⟩
theorem now_above {l : List Ki} {ms : List Br} {gr : Int} {fx th : List Int} {bi : Int} {d n : Nat} (hg : goodW l ms gr fx th bi) (hf : freeT (ms.map (celB l)) ms.length gr th bi.toNat d) (hn : n ≤ 64) : 1 ≤ (celB l (awayB (brA ms bi.toNat) d n)).length ∧ gr ≤ (ceA (celB l (awayB (brA ms bi.toNat) d n)) 0).z := by
  obtain ⟨⟨hv, hgr, hfx, hab⟩, hch, ⟨hb0, hb1⟩, hnin⟩ := hg
  have hbl : bi.toNat < ms.length := by omega
  have hl1 : 1 ≤ (celB l (brA ms bi.toNat)).length := by
    have := (cl_len hv.1 hbl).1
    rw [cl_at hbl] at this
    exact this
  have hl : 1 ≤ (celB l (awayB (brA ms bi.toNat) d n)).length := by
    rw [celB_len] at hl1 ⊢
    exact hl1
  refine ⟨hl, ?_⟩
  obtain ⟨c0, hc0, e⟩ := mem_away.1 (show ceA (celB l (awayB (brA ms bi.toNat) d n)) 0 ∈ _ by rw [ceA_at (by omega)]; exact List.getElem_mem _)
  rw [e]
  by_cases hz : n = 0
  · subst hz
    rw [farC_zero]
    have h1 := hab _ hbl
    rw [cl_at hbl, ceA_at (by omega)] at h1
    have h2 := sortC_low (l := placed (kiA l (brA ms bi.toNat).kind.toNat).cs (brA ms bi.toNat).trn.toNat (brA ms bi.toNat).at_) (by show 0 < (celB l (brA ms bi.toNat)).length; omega) c0 (mem_celB.1 hc0)
    exact Int.le_trans h1 h2
  · have hcc : c0 ∈ klA (ms.map (celB l)) bi.toNat := by rw [cl_at hbl]; exact hc0
    obtain ⟨t, ht, rfl⟩ := List.getElem_of_mem hcc
    have := (hf t ht n (by omega) hn).1
    rw [ceA_at ht] at this
    exact this
end Go.Proofs.YtebkhdhhajjhfaaGreat.Lt

/- The reference's Near and Great. -/
namespace Go.Proofs.YtebkhdhhajjhfaaGreat.Lt
open Go Go.RowKit
theorem within01_any (x a b : Int) (w : World) : Calls Tryz.prog 70 #[.int .i64 x, .int .i64 a, .int .i64 b] w fun e w' => e = .returned (.bool (decide (a ≤ x ∧ x ≤ b))) ∧ w = w' := by
  go_enter Tryz.func70, Tryz.ntmps70
  by_cases h1 : x ≥ a
  · by_cases h2 : x ≤ b
    · go_wp2
      go_ret
      exact ⟨ret_b (by simp; omega), rfl⟩
    · go_wp2
      go_ret
      exact ⟨ret_b (by simp; omega), rfl⟩
  · go_wp2
    go_ret
    exact ⟨ret_b (by simp; omega), rfl⟩
set_option maxRecDepth 100000 in
set_option maxHeartbeats 1000000 in
theorem near01_any (x y z a b : Int) (w : World) : Calls Tryz.prog 35 #[.agg #[.int .i64 x, .int .i64 y, .int .i64 z], .int .i64 a, .int .i64 b] w fun e w' => e = .returned (.bool (nearB ⟨x, y, z⟩ a b)) ∧ Ext w w' := by
  have kb : Blk (w.alloc (.cells #[.int .i64 x, .int .i64 y, .int .i64 z] 60)) w.heap.size [.int .i64 x, .int .i64 y, .int .i64 z] := Blk.new _ _
  have c0 := kb.at_ 0 rfl
  have c1 := kb.at_ 1 rfl
  have c2 := kb.at_ 2 rfl
  have hx := fun w' => within01_any x a b w'
  have hy := fun w' => within01_any y a b w'
  have hz := fun w' => within01_any z a b w'
  have hn : nearB ⟨x, y, z⟩ a b = (decide (a ≤ x ∧ x ≤ b) && decide (a ≤ y ∧ y ≤ b) && decide (a ≤ z ∧ z ≤ b)) := by
    rw [Bool.eq_iff_iff]
    simp only [nearB, nearP, Bool.and_eq_true, decide_eq_true_eq, and_assoc]
  rw [hn]
  clear hn kb
  generalize decide (a ≤ x ∧ x ≤ b) = p at *
  generalize decide (a ≤ y ∧ y ≤ b) = q at *
  generalize decide (a ≤ z ∧ z ≤ b) = r at *
  have Hx := Lib.hid hx
  have Hy := Lib.hid hy
  have Hz := Lib.hid hz
  clear hx hy hz
  cases p with
  | false =>
    go_enter Tryz.func35, Tryz.ntmps35
    go_wp2_with (first
      | (go_at_call 70; refine (Hx.out _).mono ?_; rintro e w' ⟨rfl, rfl⟩; clear Hx))
    go_ret
    exact ⟨rfl, (Ext.refl _).alloc _⟩
  | true =>
    cases q with
    | false =>
      go_enter Tryz.func35, Tryz.ntmps35
      go_wp2_with (first
        | (go_at_call 70; have hq := Hx; clear hq; refine (Hx.out _).mono ?_; rintro e w' ⟨rfl, rfl⟩; clear Hx)
        | (go_at_call 70; refine (Hy.out _).mono ?_; rintro e w' ⟨rfl, rfl⟩; clear Hy))
      go_ret
      exact ⟨rfl, (Ext.refl _).alloc _⟩
    | true =>
      go_enter Tryz.func35, Tryz.ntmps35
      go_wp2_with (first
        | (go_at_call 70; have hq := Hx; clear hq; refine (Hx.out _).mono ?_; rintro e w' ⟨rfl, rfl⟩; clear Hx)
        | (go_at_call 70; have hq := Hy; clear hq; refine (Hy.out _).mono ?_; rintro e w' ⟨rfl, rfl⟩; clear Hy)
        | (go_at_call 70; refine (Hz.out _).mono ?_; rintro e w' ⟨rfl, rfl⟩; clear Hz))
      go_ret
      exact ⟨rfl, (Ext.refl _).alloc _⟩
/-- A bool, and what its being false says. -/
def BoolRes (P : Prop) (w : World) (e : Ending) (w' : World) : Prop := ∃ v : Bool, e = .returned (.bool v) ∧ Ext w w' ∧ (v = false → P)
theorem BoolRes.yes {P : Prop} {w w' : World} (he : Ext w w') : BoolRes P w (.returned (.bool true)) w' := ⟨true, rfl, he, fun h => by cases h⟩
theorem BoolRes.no {P : Prop} {w w' : World} (he : Ext w w') (h : P) : BoolRes P w (.returned (.bool false)) w' := ⟨false, rfl, he, fun _ => h⟩
set_option maxRecDepth 100000 in
set_option maxHeartbeats 2000000 in
theorem great01_any (l : List Ki) (A : Option Addr) (c : Nat) (M : Option Addr) (m mc : Nat) (w : World) (hA : KiRow w A l) : Calls Tryz.prog 25 #[.slice A l.length c, .agg #[.slice M m mc]] w (BoolRes True w) := by
  have kb : Blk (w.alloc (.cells #[.slice M m mc] 25)) w.heap.size [.slice M m mc] := Blk.new _ _
  have c0 := kb.at_ 0 rfl
  have HA := Lib.hid hA
  clear kb hA
  obtain ⟨n, hn⟩ : ∃ n, n = l.length := ⟨_, rfl⟩
  have HN := Lib.hid hn
  rw [← hn]
  clear hn
  by_cases h1 : (n : Int) > 20
  · go_enter Tryz.func25, Tryz.ntmps25
    go_wp2
    go_ret
    exact BoolRes.yes ((Ext.refl _).alloc _)
  by_cases h2 : (m : Int) > 45
  · go_enter Tryz.func25, Tryz.ntmps25
    go_wp2
    go_ret
    exact BoolRes.yes ((Ext.refl _).alloc _)
  go_enter Tryz.func25, Tryz.ntmps25
  go_wp2
  go_loopw [5] (fun i wr => ∃ k : Nat, k ≤ n ∧ i = .int .i64 k ∧ Ext w wr) (fun i _ => n - (intOf i).toNat)
  case atStart => exact ⟨0, by omega, rfl, (Ext.refl _).alloc _⟩
  case round =>
    clear c0
    obtain ⟨k, hk, rfl, hex⟩ := hrel
    by_cases hlt : k < n
    · have hki : (k : Int) < (n : Int) := by omega
      have hw1 : IntKind.i64.wrap ((k : Int) + 1) = ((k + 1 : Nat) : Int) := by rw [IntKind.wrap_i64]; omega
      obtain ⟨ad, B, b, D, d, rfl, x0, x1, x2, _, _⟩ := HA.out k (by rw [← HN.out]; exact hlt)
      have u0 := fun w' he => x0 w' (hex.trans he)
      have u1 := fun w' he => x1 w' (hex.trans he)
      clear x0 x1 x2
      generalize (kiA l k).cs.length = lc at *
      generalize (kiA l k).ks.length = lk at *
      by_cases h3 : (lc : Int) > 30
      · go_wp2
        go_ret
        exact BoolRes.yes hex
      by_cases h4 : (lk : Int) > 60
      · go_wp2
        go_ret
        exact BoolRes.yes hex
      go_wp2
      go_roundw
      case rel => exact ⟨k + 1, by omega, by go_num, hex⟩
      case measure => simp [intOf]; omega
    · obtain rfl : n = k := by omega
      go_wp2
      go_ret
      exact BoolRes.no hex trivial
set_option maxRecDepth 100000 in
set_option maxHeartbeats 1000000 in
theorem great03_any (l : List Ki) (A : Option Addr) (c : Nat) (M : Option Addr) (m mc : Nat) (gr : Int) (F : Option Addr) (f fc : Nat) (w : World) (hA : KiRow w A l) : Calls Tryz.prog 8 #[.slice A l.length c, .agg #[.slice M m mc], .agg #[.int .i64 gr, .slice F f fc]] w (BoolRes (f ≤ 60) w) := by
  have hx1 : Ext w ((w.alloc (.cells #[.slice M m mc] 25)).alloc (.cells #[.int .i64 gr, .slice F f fc] 28)) := ((Ext.refl w).alloc _).alloc _
  have k1 : Blk ((w.alloc (.cells #[.slice M m mc] 25)).alloc (.cells #[.int .i64 gr, .slice F f fc] 28)) w.heap.size [.slice M m mc] := (Blk.new _ _).ext ((Ext.refl _).alloc _)
  have k2 : Blk ((w.alloc (.cells #[.slice M m mc] 25)).alloc (.cells #[.int .i64 gr, .slice F f fc] 28)) (w.heap.size + 1) [.int .i64 gr, .slice F f fc] := Blk.new' (by simp)
  have z0 := k1.at_ 0 rfl
  have z1 := k2.at_ 0 rfl
  have z2 := k2.at_ 1 rfl
  have Hg := Lib.hid (great01_any l A c M m mc _ (hA.ext hx1))
  have Hx1 := Lib.hid hx1
  clear k1 k2 hx1 hA
  generalize l.length = n at *
  by_cases hf : (f : Int) > 60
  · go_enter Tryz.func8, Tryz.ntmps8
    go_wp2_with (go_at_call 25; refine (Hg.out).mono ?_; rintro e w2 ⟨v, rfl, he2, _⟩; have y2 := fun w' he => z2 w' (he2.trans he); have He2 := Lib.hid (Hx1.out.trans he2); clear he2 z0 z1 z2; cases v)
    all_goals
      go_wp2
      go_ret
      exact BoolRes.yes He2.out
  · go_enter Tryz.func8, Tryz.ntmps8
    go_wp2_with (go_at_call 25; refine (Hg.out).mono ?_; rintro e w2 ⟨v, rfl, he2, _⟩; have y2 := fun w' he => z2 w' (he2.trans he); have He2 := Lib.hid (Hx1.out.trans he2); clear he2 z0 z1 z2; cases v)
    · go_wp2
      go_ret
      rw [show decide ((60 : Int) < (f : Int)) = false by simp; omega]
      exact BoolRes.no He2.out (by omega)
    · go_wp2
      go_ret
      exact BoolRes.yes He2.out
end Go.Proofs.YtebkhdhhajjhfaaGreat.Lt

/- A region that draws its order, whose operations each yield one value, whatever the order: one look at each operation serves every order. No program in sight. -/
namespace Go.Proofs.YtebkhdhhajjhfaaGreat
namespace DetR
open Go.RowKit

/-- The frame behind some operations. -/
def puts (vals : Nat → Value) : List Oper → Nat → Act → Act
  | [], _, a => a
  | o :: l, j, a => puts vals l (j + 1) (a.put o.dst (vals j))

/-- A frame in which the operations of L have been carried out. -/
structure At (ops : Array Oper) (vals : Nat → Value) (a0 : Act) (L : Nat → Bool) (a : Act) : Prop where
  size : a.tmps.size = a0.tmps.size
  defers : a.defers = a0.defers
  on : ∀ j o k, ops[j]? = some o → L j = true → o.dst = some k → a.tmps[k]? = some (vals j)
  off : ∀ k, (∀ j o, ops[j]? = some o → L j = true → o.dst ≠ some k) → a.tmps[k]? = a0.tmps[k]?

/-- Each operation writes a slot of its own, within the frame; none is guarded; edges that bind go back. -/
def okB (ops : Array Oper) (n : Nat) : Bool :=
  (List.range ops.size).all fun i => match ops[i]? with
    | some o => o.guard.isNone && (o.after.all fun e => !Region.binds .any e || decide (e.on < i)) && (match o.dst with
      | some k => decide (k < n) && ((List.range ops.size).all fun j => j == i || (match ops[j]? with | some o' => !(o'.dst == some k) | none => true))
      | none => true)
    | none => true

variable {ops : Array Oper} {vals : Nat → Value} {a0 a b : Act} {L M : Nat → Bool}
theorem okB_at {n : Nat} (h : okB ops n = true) {i : Nat} {o : Oper} (ho : ops[i]? = some o) : o.guard = none ∧ (∀ e ∈ o.after, Region.binds .any e = true → e.on < i) ∧ ∀ k, o.dst = some k → k < n ∧ ∀ j o', ops[j]? = some o' → o'.dst = some k → j = i := by
  have hi := (Array.getElem?_eq_some_iff.1 ho).1
  have h1 := List.all_eq_true.1 h i (List.mem_range.2 hi)
  simp only [ho, Bool.and_eq_true] at h1
  obtain ⟨⟨h2, h3⟩, h4⟩ := h1
  refine ⟨by simpa using h2, fun e he hb => ?_, fun k hk => ?_⟩
  · have := (Array.all_eq_true_iff_forall_mem.1 h3) e he
    simpa [hb] using this
  · rw [hk] at h4
    simp only [Bool.and_eq_true, decide_eq_true_eq] at h4
    refine ⟨h4.1, fun j o' hj hd => ?_⟩
    have h5 := List.all_eq_true.1 h4.2 j (List.mem_range.2 (Array.getElem?_eq_some_iff.1 hj).1)
    simp only [hj, hd, Bool.or_eq_true, beq_iff_eq] at h5
    simpa using h5
theorem At.start : At ops vals a0 (fun _ => false) a0 := ⟨rfl, rfl, fun _ _ _ _ h => (by cases h), fun _ _ => rfl⟩
theorem At.congr (h : At ops vals a0 L a) (he : ∀ j o, ops[j]? = some o → L j = M j) : At ops vals a0 M a :=
  ⟨h.size, h.defers, fun j o k ho hm => h.on j o k ho (by rw [he j o ho]; exact hm), fun k hk => h.off k fun j o ho hl => hk j o ho (by rw [← he j o ho]; exact hl)⟩
theorem At.put (h : At ops vals a0 L a) (hB : okB ops a0.tmps.size = true) {i : Nat} {o : Oper} (ho : ops[i]? = some o) (hi : L i = false) : At ops vals a0 (fun j => L j || j == i) (a.put o.dst (vals i)) := by
  obtain ⟨_, _, h3⟩ := okB_at hB ho
  cases hd : o.dst with
  | none =>
    refine ⟨h.size, h.defers, fun j o' k hj hl hk => ?_, fun k hk => h.off k fun j o' hj hl => hk j o' hj (by simp [hl])⟩
    simp only [Bool.or_eq_true, beq_iff_eq] at hl
    rcases hl with hl | rfl
    · exact h.on j o' k hj hl hk
    · rw [ho] at hj
      cases hj
      rw [hd] at hk
      cases hk
  | some d =>
    obtain ⟨hlt, huniq⟩ := h3 d hd
    refine ⟨by simp [Act.put, h.size], h.defers, fun j o' k hj hl hk => ?_, fun k hk => ?_⟩
    · simp only [Act.put]
      by_cases hkd : k = d
      · subst hkd
        obtain rfl := huniq j o' hj hk
        rw [Array.getElem?_setIfInBounds_self_of_lt (by rw [h.size]; exact hlt)]
      · rw [Array.getElem?_setIfInBounds_ne (Ne.symm hkd)]
        simp only [Bool.or_eq_true, beq_iff_eq] at hl
        rcases hl with hl | rfl
        · exact h.on j o' k hj hl hk
        · rw [ho] at hj
          cases hj
          rw [hd] at hk
          exact absurd (Option.some.inj hk).symm hkd
    · simp only [Act.put]
      have hkd : d ≠ k := fun e => hk i o ho (by simp) (by rw [hd, e])
      rw [Array.getElem?_setIfInBounds_ne hkd]
      exact h.off k fun j o' hj hl => hk j o' hj (by simp [hl])
theorem At.unique (ha : At ops vals a0 L a) (hb : At ops vals a0 L b) : a = b := by
  obtain ⟨ta, da⟩ := a
  obtain ⟨tb, db⟩ := b
  have e1 : da = db := ha.defers.trans hb.defers.symm
  have e2 : ta = tb := by
    refine Array.ext_getElem? fun k => ?_
    by_cases h : ∃ j o, ops[j]? = some o ∧ L j = true ∧ o.dst = some k
    · obtain ⟨j, o, h1, h2, h3⟩ := h
      exact (ha.on j o k h1 h2 h3).trans (hb.on j o k h1 h2 h3).symm
    · have hn : ∀ j o, ops[j]? = some o → L j = true → o.dst ≠ some k := fun j o h1 h2 h3 => h ⟨j, o, h1, h2, h3⟩
      exact (ha.off k hn).trans (hb.off k hn).symm
  rw [e1, e2]
theorem puts_at (hB : okB ops a0.tmps.size = true) : ∀ (l : List Oper) (j : Nat) (a : Act), (∀ i, l[i]? = ops[j + i]?) → At ops vals a0 (fun m => decide (m < j)) a → At ops vals a0 (fun m => decide (m < j + l.length)) (puts vals l j a)
  | [], j, a, _, h => h
  | o :: l, j, a, hl, h => by
    have ho : ops[j]? = some o := by have := hl 0; simpa using this.symm
    have h1 := h.put hB ho (by simp)
    have h2 := puts_at hB l (j + 1) _ (fun i => by have := hl (i + 1); rw [show j + 1 + i = j + (i + 1) by omega, ← this]; simp) (h1.congr (M := fun m => decide (m < j + 1)) fun m o' _ => by
      rw [Bool.eq_iff_iff]
      simp only [Bool.or_eq_true, decide_eq_true_eq, beq_iff_eq]
      omega)
    refine h2.congr fun m o' _ => ?_
    simp only [List.length_cons]
    congr 1
    rw [show j + 1 + l.length = j + (l.length + 1) by omega]

/-- What an operation does: it yields its value, and the world goes on. -/
def okStep (P : Program) (o : Oper) (a : Act) (w : World) (v : Value) (K : World → Prop) : Prop := match (execOp a.eval o).run P w with
  | .ok (.value u) w' => u = v ∧ K w'
  | .ok .skip w' => o.dst = none ∧ K w'
  | .ok (.enter f args) w' => Calls P f args w' fun e w'' => e = .returned v ∧ K w''
  | _ => False
theorem wp_of_ok {P : Program} {o : Oper} {w : World} {v : Value} {K : World → Prop} {K' : Act → World → Prop} {Q : Exit → Act → World → Prop} (h : okStep P o a w v K) (hK : ∀ w', K w' → K' (a.put o.dst v) w') : o.wp P a w K' Q := by
  unfold okStep at h
  unfold Oper.wp
  generalize (execOp a.eval o).run P w = r at *
  cases r with
  | ok n w' =>
    cases n <;> simp only at h <;> simp only [Oper.upon]
    case value u => obtain ⟨rfl, h⟩ := h; exact hK _ h
    case skip =>
      have h2 := hK _ h.2
      rw [h.1] at h2 ⊢
      exact h2
    case enter f args => exact h.mono fun e w'' ⟨he, hk⟩ => by subst he; exact hK _ hk
  | halt x w' => simp only at h

/-- What the list says of the operations that have been carried out. -/
abbrev Ls (listed : Array Bool) : Nat → Bool := fun j => listed.getD j false
theorem set_ls {listed : Array Bool} {i : Nat} (hi : i < listed.size) : ∀ j, Ls (listed.setIfInBounds i true) j = (Ls listed j || j == i) := fun j => by
  simp only [Ls, Array.getD_eq_getD_getElem?]
  by_cases h : j = i
  · subst h
    rw [Array.getElem?_setIfInBounds_self_of_lt hi]
    simp
  · rw [Array.getElem?_setIfInBounds_ne (Ne.symm h)]
    simp [h]

def closedL (ops : Array Oper) (L : Nat → Bool) : Prop := ∀ j o, ops[j]? = some o → L j = true → ∀ e ∈ o.after, Region.binds .any e = true → L e.on = true

theorem wpAny_det {P : Program} {Q : Exit → Act → World → Prop} (Wd : (Nat → Bool) → World → Prop) (hB : okB ops a0.tmps.size = true)
    (hst : ∀ i o, ops[i]? = some o → ∀ L a w, L i = false → closedL ops L → (∀ e ∈ o.after, Region.binds .any e = true → L e.on = true) → At ops vals a0 L a → Wd L w → okStep P o a w (vals i) (fun w' => Wd (fun j => L j || j == i) w'))
    (hfin : ∀ L a w, (∀ j, j < ops.size → L j = true) → At ops vals a0 L a → Wd L w → Q .normal a w) :
    ∀ (f : Nat) (listed : Array Bool) (a : Act) (w : World), listed.size = ops.size → (listed.toList.filter (· == false)).length ≤ f → closedL ops (Ls listed) → At ops vals a0 (Ls listed) a → Wd (Ls listed) w → wpAny P .any ops Q f listed a w := by
  have hready : ∀ listed : Array Bool, listed.size = ops.size → Region.ready .any ops listed = [] → ∀ j, j < ops.size → Ls listed j = true := by
    intro listed hsz hr
    have key : ∀ n j, j < n → j < ops.size → Ls listed j = true := by
      intro n
      induction n with
      | zero => intro j h; omega
      | succ n ih =>
        intro j hj hjs
        cases hl : Ls listed j with
        | true => rfl
        | false =>
          exfalso
          have ho : ops[j]? = some ops[j] := Array.getElem?_eq_getElem hjs
          have : j ∈ Region.ready .any ops listed := by
            rw [mem_ready]
            refine ⟨?_, _, ho, fun e he hb => ?_⟩
            · have hjl : j < listed.size := by omega
              simp only [Ls, Array.getD_eq_getD_getElem?, Array.getElem?_eq_getElem hjl, Option.getD_some] at hl ⊢
              exact hl
            · have h1 := (okB_at hB ho).2.1 e he hb
              exact ih e.on (by omega) (by omega)
          rw [hr] at this
          cases this
    exact fun j hj => key (j + 1) j (by omega) hj
  intro f
  induction f with
  | zero =>
    intro listed a w hsz hf hcl hat hw
    have hall : ∀ j, j < ops.size → Ls listed j = true := fun j hj => by
      have hjl : j < listed.size := by omega
      cases hl : listed[j] with
      | true => simp [Ls, hjl, hl]
      | false =>
        have : false ∈ listed.toList.filter (· == false) := by
          rw [List.mem_filter]
          exact ⟨by rw [← hl]; simp, rfl⟩
        have h1 := List.length_pos_of_mem this
        omega
    refine ⟨?_, hfin _ _ _ hall hat hw⟩
    apply List.eq_nil_iff_forall_not_mem.2
    intro i hi
    obtain ⟨h1, o, ho, _⟩ := mem_ready.1 hi
    have h2 := hall i (Array.getElem?_eq_some_iff.1 ho).1
    have hil : i < listed.size := by have := (Array.getElem?_eq_some_iff.1 ho).1; omega
    simp only [Ls, Array.getD_eq_getD_getElem?, Array.getElem?_eq_getElem hil, Option.getD_some] at h1 h2
    rw [h1] at h2
    cases h2
  | succ f ih =>
    intro listed a w hsz hf hcl hat hw
    refine ⟨fun hr => hfin _ _ _ (hready listed hsz hr) hat hw, fun i hi => ?_⟩
    obtain ⟨h1, o, ho, hdep⟩ := mem_ready.1 hi
    have his := (Array.getElem?_eq_some_iff.1 ho).1
    have hil : i < listed.size := by omega
    have hun : Ls listed i = false := by
      simp only [Ls, Array.getD_eq_getD_getElem?, Array.getElem?_eq_getElem hil, Option.getD_some] at h1 ⊢
      exact h1
    have hs := set_ls hil
    have hs' : Ls (listed.setIfInBounds i true) = fun j => Ls listed j || j == i := funext hs
    unfold wpOp
    simp only [ho]
    have hwn : Region.wanted o (yielded ops a.tmps) = true := by unfold Region.wanted; rw [(okB_at hB ho).1]
    rw [if_pos hwn]
    refine .inl (wp_of_ok (hst i o ho (Ls listed) a w hun hcl hdep hat hw) fun w' hw' => ih _ _ _ (by simpa using hsz) ?_ ?_ ?_ ?_)
    · have e1 : listed.toList = listed.toList.take i ++ false :: listed.toList.drop (i + 1) := by
        have : listed.toList[i]'(by simpa using hil) = false := by
          simp only [Ls, Array.getD_eq_getD_getElem?, Array.getElem?_eq_getElem hil, Option.getD_some] at hun
          simpa using hun
        rw [← this, ← List.drop_eq_getElem_cons (by simpa using hil), List.take_append_drop]
      have e2 : (listed.setIfInBounds i true).toList = listed.toList.take i ++ true :: listed.toList.drop (i + 1) := by
        rw [Array.toList_setIfInBounds, List.set_eq_take_append_cons_drop, if_pos (by simpa using hil)]
      rw [e2]
      rw [e1] at hf
      simp only [List.filter_append, List.length_append] at hf ⊢
      simp at hf ⊢
      omega
    · rw [hs']
      intro j o' hj hl e he hb
      simp only [Bool.or_eq_true, beq_iff_eq] at hl ⊢
      rcases hl with hl | rfl
      · exact .inl (hcl j o' hj hl e he hb)
      · rw [ho] at hj
        cases hj
        exact .inl (hdep e he hb)
    · rw [hs']
      exact hat.put hB ho hun
    · rw [hs']
      exact hw'

theorem wp_region_det {P : Program} {id : Nat} {Q : Exit → Act → World → Prop} {w : World} {l : List Oper} (vals : Nat → Value) (Wd : (Nat → Bool) → World → Prop) (hm : P.follows .mixedOrders = true) (hB : okB l.toArray a0.tmps.size = true)
    (h0 : Wd (fun _ => false) { w with drawn := w.drawn + 1 })
    (hst : ∀ i o, l[i]? = some o → ∀ L a w, L i = false → closedL l.toArray L → (∀ e ∈ o.after, Region.binds .any e = true → L e.on = true) → At l.toArray vals a0 L a → Wd L w → okStep P o a w (vals i) (fun w' => Wd (fun j => L j || j == i) w'))
    (hfin : ∀ L w, (∀ j, j < l.length → L j = true) → Wd L w → Q .normal (puts vals l 0 a0) w) : (Code.region id l.toArray true).wp P Q a0 w := by
  refine wp_region_any hm ?_
  have hls : Ls (Array.replicate l.toArray.size false) = fun _ => false := funext fun j => by
    simp only [Ls, Array.getD_eq_getD_getElem?]
    by_cases h : j < l.toArray.size
    · rw [Array.getElem?_replicate, if_pos h]
      rfl
    · rw [Array.getElem?_replicate, if_neg h]
      rfl
  refine wpAny_det (vals := vals) (a0 := a0) Wd hB (fun i o ho => hst i o (by simpa using ho)) (fun L a w hL hat hw => ?_) l.toArray.size _ a0 _ (by simp) ?_ ?_ ?_ ?_
  · have h1 := puts_at (vals := vals) (a0 := a0) hB l 0 a0 (fun i => by simp) (At.start.congr fun j o _ => by simp)
    have e : a = puts vals l 0 a0 := hat.unique (h1.congr fun j o hj => by
      have hjl : j < l.length := by simpa using (Array.getElem?_eq_some_iff.1 hj).1
      rw [hL j (by simpa using hjl)]
      simp [hjl])
    rw [e]
    exact hfin L w (fun j hj => hL j (by simpa using hj)) hw
  · exact Nat.le_trans (List.length_filter_le _ _) (by simp)
  · rw [hls]
    intro j o _ h
    cases h
  · rw [hls]
    exact At.start
  · rw [hls]
    exact h0
/-- Whether an operation waits for another one. -/
def depB (ops : Array Oper) : Nat → Nat → Nat → Bool
  | 0, _, _ => false
  | n + 1, j, k => match ops[j]? with
    | some o => o.after.any fun e => Region.binds .any e && (e.on == k || depB ops n e.on k)
    | none => false
theorem closed_dep (h : closedL ops L) : ∀ (n j k : Nat), depB ops n j k = true → L j = true → L k = true
  | 0, _, _, hd, _ => by cases hd
  | n + 1, j, k, hd, hl => by
    unfold depB at hd
    cases ho : ops[j]? with
    | none => rw [ho] at hd; cases hd
    | some o =>
      rw [ho] at hd
      obtain ⟨e, he, hb⟩ := Array.any_eq_true'.1 hd
      simp only [Bool.and_eq_true, Bool.or_eq_true, beq_iff_eq] at hb
      have h1 := h j o ho hl e he hb.1
      rcases hb.2 with h2 | h2
      · rw [← h2]; exact h1
      · exact closed_dep h n e.on k h2 h1
theorem not_yet (h : closedL ops L) (n j k : Nat) (hd : depB ops n j k = true) (hk : L k = false) : L j = false := by
  cases hj : L j with
  | false => rfl
  | true => rw [closed_dep h n j k hd hj] at hk; cases hk
theorem At.slot (h : At ops vals a0 L a) {i j k : Nat} {o : Oper} (ho : ops[j]? = some o) (hd : o.dst = some k) {oi : Oper} (_ : ops[i]? = some oi) (hdep : ∀ e ∈ oi.after, Region.binds .any e = true → L e.on = true) (he : (oi.after.any fun e => Region.binds .any e && e.on == j) = true) : a.tmps[k]?.getD undef = vals j := by
  have hl : L j = true := by
    obtain ⟨e, h1, h2⟩ := Array.any_eq_true'.1 he
    simp only [Bool.and_eq_true, beq_iff_eq] at h2
    rw [← h2.2]
    exact hdep e h1 h2.1
  rw [h.on j o k ho hl hd]
  rfl
theorem At.old (h : At ops vals a0 L a) {k : Nat} (hn : (ops.any fun o => o.dst == some k) = false) : a.tmps[k]?.getD undef = a0.tmps[k]?.getD undef := by
  rw [h.off k fun j o ho _ hd => ?_]
  have h1 : (ops.any fun o => o.dst == some k) = true := by
    rw [Array.any_eq_true']
    exact ⟨o, Array.mem_of_getElem? ho, by rw [hd]; simp⟩
  rw [hn] at h1
  cases h1
/-- A claim on each operation of a list, with its number. -/
def each (C : Nat → Oper → Prop) : List Oper → Nat → Prop
  | [], _ => True
  | o :: l, j => C j o ∧ each C l (j + 1)
theorem each_all {C : Nat → Oper → Prop} : ∀ (l : List Oper) (j : Nat), each C l j → ∀ i o, l[i]? = some o → C (j + i) o
  | [], _, _, i, o, h => by simp at h
  | q :: l, j, h, 0, o, ho => by
    simp at ho
    subst ho
    exact h.1
  | q :: l, j, h, i + 1, o, ho => by
    have := each_all l (j + 1) h.2 i o (by simpa using ho)
    rw [show j + (i + 1) = j + 1 + i by omega]
    exact this
theorem wp_region_each {P : Program} {id : Nat} {Q : Exit → Act → World → Prop} {w : World} {l : List Oper} (vals : Nat → Value) (Wd : (Nat → Bool) → World → Prop) (hm : P.follows .mixedOrders = true) (hB : okB l.toArray a0.tmps.size = true)
    (h0 : Wd (fun _ => false) { w with drawn := w.drawn + 1 })
    (hst : each (fun i o => ∀ L a w, L i = false → closedL l.toArray L → (∀ e ∈ o.after, Region.binds .any e = true → L e.on = true) → At l.toArray vals a0 L a → Wd L w → okStep P o a w (vals i) (fun w' => Wd (fun j => L j || j == i) w')) l 0)
    (hfin : ∀ L w, (∀ j, j < l.length → L j = true) → Wd L w → Q .normal (puts vals l 0 a0) w) : (Code.region id l.toArray true).wp P Q a0 w :=
  wp_region_det vals Wd hm hB h0 (fun i o ho => by have := each_all l 0 hst i o ho; rwa [Nat.zero_add] at this) hfin
end DetR
end Go.Proofs.YtebkhdhhajjhfaaGreat

/- Bricks that are put into a model one by one; what pushed asks of the layers below. -/
namespace Go.Proofs.YtebkhdhhajjhfaaGreat.Lt
open Go Go.RowKit
theorem brick_elem : ElemInfo 85 (.agg #[.int .i64 0, .int .i64 0, .int .i64 0, .int .i64 0, .int .u8 0, .int .u8 0]) 6 40 := ⟨info_parts (by kernel_rfl), rfl, by decide⟩
theorem dep_on {L : Nat → Bool} {oi : Oper} (hdep : ∀ e ∈ oi.after, Region.binds .any e = true → L e.on = true) (j : Nat) (he : (oi.after.any fun e => Region.binds .any e && e.on == j) = true) : L j = true := by
  obtain ⟨e, h1, h2⟩ := Array.any_eq_true'.1 he
  simp only [Bool.and_eq_true, beq_iff_eq] at h2
  rw [← h2.2]
  exact hdep e h1 h2.1
/-- The worlds of a region that appends and stores: before, with the new block, behind the append, behind the store. -/
def AWd (wD wA w9 w10 : World) (L : Nat → Bool) (w : World) : Prop := (L 7 = false → w = wD) ∧ (L 7 = true → L 8 = false → w = wA) ∧ (L 8 = true → L 10 = false → w = w9) ∧ (L 10 = true → w = w10)
section
variable {wD wA w9 w10 w : World} {L : Nat → Bool}
theorem AWd.same {i : Nat} (h : AWd wD wA w9 w10 L w) (h7 : (7 == i) = false) (h8 : (8 == i) = false) (h10 : (10 == i) = false) : AWd wD wA w9 w10 (fun j => L j || j == i) w := by
  unfold AWd at *
  simp only [h7, h8, h10, Bool.or_false]
  exact h
theorem AWd.a (h8 : L 8 = false) (h10 : L 10 = false) : AWd wD wA w9 w10 (fun j => L j || j == 7) wA := by
  unfold AWd
  simp [h8, h10]
theorem AWd.b (h7 : L 7 = true) (h10 : L 10 = false) : AWd wD wA w9 w10 (fun j => L j || j == 8) w9 := by
  unfold AWd
  simp [h7, h10]
theorem AWd.c (h7 : L 7 = true) (h8 : L 8 = true) : AWd wD wA w9 w10 (fun j => L j || j == 10) w10 := by
  unfold AWd
  simp [h7, h8]
end
theorem app_brick {b w : World} {v : Value} {k : Nat} {xs : List Value} (hown : Own b w 85 6 v k xs) (x : Br) (hk : k ≤ 1000) : ∃ v9 w9, (Builtin.append_ #[23, 23] 23 #[v, .slice (some ⟨w.heap.size, 0, none⟩) 1 1]).run Tryz.prog (w.alloc (.cells x.cells.toArray 85)) = .ok v9 w9 ∧ Own b w9 85 6 v9 (k + 1) (xs ++ x.cells) ∧ (w.alloc (.cells x.cells.toArray 85)).grownBy w9 v.ownBlock := by
  obtain ⟨i, hi, hz0, hz1, hz2⟩ := brick_elem.info
  have ha : Own b (w.alloc (.cells x.cells.toArray 85)) 85 6 v k xs := hown.alloc _
  have hnews : ∀ j u, x.cells[j]? = some u → (w.alloc (.cells x.cells.toArray 85)).cell? ((⟨w.heap.size, 0, none⟩ : Addr).add j) = some u := fun j u hj => by
    rw [add_zero', cell_heap (heap_alloc_new _ _), List.getElem?_toArray]
    exact hj
  have hone : ∀ u ∈ x.cells, u.oneCell' = true := fun u hu => by
    simp [Br.cells] at hu
    rcases hu with rfl | rfl | rfl | rfl | rfl | rfl <;> rfl
  obtain ⟨v', w', hr, o1, o2, _, _⟩ := run_append_own_at (P := Tryz.prog) (w.alloc (.cells x.cells.toArray 85)) b.heap.size 23 23 85 i _ 6 _ Tryz.underlying23 hi hz0 hz1 hz2 brick_elem.zs brick_elem.pos v k xs ha.2 ⟨w.heap.size, 0, none⟩ 1 1 x.cells (by simp [Br.cells]) hnews hone (by unfold maxLen; omega) (by omega) ha.1.le
  exact ⟨v', w', hr, ⟨ha.1.grown o2 (fun k hk => (ha.2.lt k hk).1), o1⟩, o2⟩
theorem eval_tmp {a : Act} {k : Nat} {v : Value} (h : a.tmps[k]?.getD undef = v) : a.eval (.tmp k) = v := by
  show a.tmps.getD k undef = v
  rw [Array.getD_eq_getD_getElem?]
  exact h
theorem okStep_append {o : Oper} {a : Act} {w w' : World} {v v' x : Value} {K : World → Prop} (s q : Operand) (t : TypeId) (ho : o.op = .call { callee := .builtin .append, args := #[s, q], argTypes := #[t, t] }) (hs : a.eval s = v) (hx : a.eval q = x) (hr : (Builtin.append_ #[t, t] o.type #[v, x]).run Tryz.prog w = .ok v' w') (hK : K w') : DetR.okStep Tryz.prog o a w v' K := by
  unfold DetR.okStep
  rw [exec_append s q t ho hs hx hr]
  exact ⟨rfl, hK⟩
/-- A block of the call's own that is one struct. -/
theorem own_whole {w1 w : World} {e size g : Nat} {xs : List Value} (h : Own w1 w e size (.slice (some ⟨g, 0, none⟩) 1 1) 1 xs) : ∃ cs, w.heap[g]? = some (.cells cs e) ∧ cs = xs.toArray := by
  rcases h.2.2 with ⟨e1, _⟩ | ⟨g', cap, cur, e1, _, hh, h1, h2, h3, h4⟩
  · cases e1
  · simp only [Value.slice.injEq, Option.some.injEq, Addr.mk.injEq, and_true] at e1
    obtain ⟨rfl, _, rfl⟩ := e1
    refine ⟨cur, hh, ?_⟩
    have : cur.toList = xs := by
      rw [← h4, List.take_of_length_le (by simp; omega)]
    rw [← this]
/-- The cells of the first j bricks of a choice. -/
def nowX (ms : List Br) (th : List Int) (j : Nat) : List Value := (((nowL ms th).take j).map Br.cells).flatten
theorem nowX_zero (ms : List Br) (th : List Int) : nowX ms th 0 = [] := by simp [nowX]
theorem nowX_step {ms : List Br} {th : List Int} {j q : Nat} (hj : j < th.length) (hq : getI th j = (q : Int)) : nowX ms th j ++ (brA ms q).cells = nowX ms th (j + 1) := by
  have hl : j < (nowL ms th).length := by rw [nowL_len]; exact hj
  have e : (nowL ms th)[j] = brA ms q := by
    have : th[j] = (q : Int) := by rw [← hq]; simp [getI, hj]
    simp [nowL, this]
  unfold nowX
  rw [List.take_add_one, List.getElem?_eq_getElem hl, e]
  simp
theorem nowX_all (ms : List Br) (th : List Int) (b : Br) : nowX ms th th.length ++ b.cells = ((nowL ms th ++ [b]).map Br.cells).flatten := by
  unfold nowX
  rw [List.take_of_length_le (by rw [nowL_len]; omega)]
  simp
theorem now_bricksW {ms : List Br} {th : List Int} {b d n : Nat} (h : bricksW ms) (hb : b < ms.length) (hth : ∀ i, i < th.length → (getI th i).toNat < ms.length) : bricksW (nowL ms th ++ [awayB (brA ms b) d n]) := fun i hi => by
  rw [List.length_append, nowL_len, List.length_singleton] at hi
  by_cases e : i < th.length
  · rw [brA_now e]
    exact h _ (hth i e)
  · obtain rfl : i = th.length := by omega
    rw [brA_last]
    exact h _ hb
/-- The cells of the brick on its way. -/
theorem away_cells {l : List Ki} {A : Option Addr} {c : Nat} {ms : List Br} {gr : Int} {fx th : List Int} {b d n : Nat} {w : World} (hA : KiRow w A l) (h8 : kindsW l) (hg : goodW l ms gr fx th (b : Int)) (hf : freeT (ms.map (celB l)) ms.length gr th b d) (hn : n ≤ 64) (hnear : nearP (farC (brA ms b).at_ d n) (-1000) 1000) :
    Calls Tryz.prog 36 #[.slice A l.length c, (awayB (brA ms b) d n).val] w fun e w' => ∃ (nL g cap : Nat) (z : Int), e = .returned (.tuple #[.slice (some ⟨g, 0, none⟩) nL cap, .int .i64 0]) ∧ Ext w w' ∧ 1 ≤ nL ∧ gr ≤ z ∧ ∀ w'', Ext w' w'' → w''.cell? ⟨g, 2, none⟩ = some (.int .i64 z) := by
  have hb : b < ms.length := by have := hg.2.2.1.2; omega
  have h := hg.1.1.1.2.2 b hb
  have hok : BrOk l.length (awayB (brA ms b) d n) := ⟨h.k0, h.k1, hnear, h.t0, h.t1, h.c0, h.c1⟩
  refine (cellsb_any l A c (awayB (brA ms b) d n) w hA h8 hg.1.1.1.1 hok).mono ?_
  rintro e w' ⟨g, cap, rfl, hO⟩
  have h2 := now_above (bi := (b : Int)) hg hf hn
  have hrow : CeRow w' (some ⟨g, 0, none⟩) (celB l (awayB (brA ms b) d n)) := hO.row
  obtain ⟨_, ee, _, _, c2⟩ := hrow.at_ (k := 0) h2.1
  cases ee
  simp only [Nat.zero_mul, add_zero', Nat.zero_add] at c2
  refine ⟨_, g, cap, _, rfl, hO.ext, ?_, h2.2, c2⟩
  rw [← celB_len]
  exact h2.1
/-- The model with the brick on its way. -/
theorem away_check {l : List Ki} {A : Option Addr} {c : Nat} {ms : List Br} {gr : Int} {fx th : List Int} {b d n : Nat} {M : Option Addr} {mc : Nat} {w : World} (hA : KiRow w A l) (h8 : kindsW l) (hbw : bricksW ms) (hg : goodW l ms gr fx th (b : Int)) (hf : freeT (ms.map (celB l)) ms.length gr th b d) (hn : n ≤ 64) (hnear : nearP (farC (brA ms b).at_ d n) (-1000) 1000) (hM : Row w M (nowX ms th th.length ++ (awayB (brA ms b) d n).cells)) :
    Calls Tryz.prog 37 #[.slice A l.length c, .agg #[.slice M (th.length + 1) mc]] w fun e w' => e = .returned (.int .i64 0) ∧ Ext w w' := by
  have hb : b < ms.length := by have := hg.2.2.1.2; omega
  rw [nowX_all] at hM
  have h1 := now_model (bi := (b : Int)) hg hf hn hnear
  have h2 := checkm_any l A c (nowL ms th ++ [awayB (brA ms b) d n]) M mc w hA h8 hM (now_bricksW hbw hb fun i hi => by have := (hg.2.1 i hi).1; omega)
  rw [List.length_append, nowL_len, List.length_singleton] at h2
  exact tells_zero h2 h1
theorem farC_sub (o : Ce) (d n : Nat) {s : Ce} (hs : stepC d = s) : farC o d n = ⟨o.x - n * s.x, o.y - n * s.y, o.z - n * s.z⟩ := by
  subst hs
  simp only [farC, backC, Int.mul_neg, Int.sub_eq_add_neg]
theorem mul_small {n : Nat} {s : Int} (hn : n ≤ 20) (h1 : -1 ≤ s) (h2 : s ≤ 1) : -20 ≤ (n : Int) * s ∧ (n : Int) * s ≤ 20 := by
  have : s = -1 ∨ s = 0 ∨ s = 1 := by omega
  rcases this with rfl | rfl | rfl <;> omega
/-- What pushed gives where all is well. -/
def PushRes (P Z : Prop) (w : World) (e : Ending) (w' : World) : Prop := ∃ x : Int, e = .returned (.int .i64 x) ∧ Ext w w' ∧ (x = 0 ∨ x = 1) ∧ (x = 1 → P) ∧ (Z → P → x = 1)
theorem PushRes.no {P Z : Prop} {w w' : World} (he : Ext w w') (h : Z → P → False) : PushRes P Z w (.returned (.int .i64 0)) w' := ⟨0, rfl, he, .inl rfl, fun e => by omega, fun z p => (h z p).elim⟩
theorem PushRes.yes {P Z : Prop} {w w' : World} (he : Ext w w') (h : P) : PushRes P Z w (.returned (.int .i64 1)) w' := ⟨1, rfl, he, .inr rfl, fun _ => h, fun _ _ => rfl⟩
end Go.Proofs.YtebkhdhhajjhfaaGreat.Lt
