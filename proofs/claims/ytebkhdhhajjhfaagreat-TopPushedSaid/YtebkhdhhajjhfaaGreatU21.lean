/- Cells, knobs, bricks and kinds of the lattice; how they lie in memory. -/
import Derived.Test.YtebkhdhhajjhfaaGreatU01
import Derived.Test.YtebkhdhhajjhfaaGreatU08
import Derived.Test.YtebkhdhhajjhfaaGreatU06
import Derived.Test.YtebkhdhhajjhfaaGreatU11
import Derived.Test.YtebkhdhhajjhfaaGreatU10
import Derived.Sort.Grow
namespace Go.Proofs.YtebkhdhhajjhfaaGreat.Lt
open Go.RowKit
structure Ce where
  x : Int
  y : Int
  z : Int
deriving DecidableEq
instance : Inhabited Ce := ⟨⟨0, 0, 0⟩⟩
structure Kn where
  at_ : Ce
  dir : Int
  srt : Int
deriving DecidableEq
instance : Inhabited Kn := ⟨⟨⟨0, 0, 0⟩, 0, 0⟩⟩
structure Br where
  kind : Int
  at_ : Ce
  trn : Int
  col : Int
deriving DecidableEq
instance : Inhabited Br := ⟨⟨0, ⟨0, 0, 0⟩, 0, 0⟩⟩
structure Ki where
  cs : List Ce
  ks : List Kn
  wt : Int
instance : Inhabited Ki := ⟨⟨[], [], 0⟩⟩
def ceA (l : List Ce) (k : Nat) : Ce := l.getD k default
theorem ceA_at {l : List Ce} {k : Nat} (h : k < l.length) : ceA l k = l[k] := by simp [ceA, List.getD, h]
def knA (l : List Kn) (k : Nat) : Kn := l.getD k default
theorem knA_at {l : List Kn} {k : Nat} (h : k < l.length) : knA l k = l[k] := by simp [knA, List.getD, h]
def brA (l : List Br) (k : Nat) : Br := l.getD k default
theorem brA_at {l : List Br} {k : Nat} (h : k < l.length) : brA l k = l[k] := by simp [brA, List.getD, h]
def kiA (l : List Ki) (k : Nat) : Ki := l.getD k default
theorem kiA_at {l : List Ki} {k : Nat} (h : k < l.length) : kiA l k = l[k] := by simp [kiA, List.getD, h]
abbrev vu8 (x : Int) : Value := .int .u8 x

def Ce.cells (s : Ce) : List Value := [vint s.x, vint s.y, vint s.z]
abbrev Ce.val (s : Ce) : Value := .agg #[vint s.x, vint s.y, vint s.z]
def CeRow (w : World) (A : Option Addr) (l : List Ce) : Prop := Row w A (l.map Ce.cells).flatten
theorem CeRow.ext {w w' : World} {A : Option Addr} {l : List Ce} (h : CeRow w A l) (he : Ext w w') : CeRow w' A l := Row.ext h he
theorem Ce.cells_len (l : List Ce) : (l.map Ce.cells).flatten.length = l.length * 3 := by
  rw [flatten_len 3 _ (by simp [Ce.cells]), List.length_map]
theorem CeRow.at_ {w : World} {A : Option Addr} {l : List Ce} (h : CeRow w A l) {k : Nat} (hk : k < l.length) :
    ∃ ad, A = some ad ∧ (∀ w', Ext w w' → w'.cell? (ad.add (k * 3)) = some (.int .i64 (ceA l k).x)) ∧
      (∀ w', Ext w w' → w'.cell? ⟨(ad.add (k * 3)).block, (ad.add (k * 3)).off + 1, none⟩ = some (.int .i64 (ceA l k).y)) ∧
      (∀ w', Ext w w' → w'.cell? ⟨(ad.add (k * 3)).block, (ad.add (k * 3)).off + 2, none⟩ = some (.int .i64 (ceA l k).z)) := by
  rw [ceA_at hk]
  obtain ⟨ad, ha, hc⟩ := Row.struct (size := 3) h (by simp [Ce.cells]) (k := k) (by simpa using hk) (by omega)
  refine ⟨ad, ha, fun w' he => ?_, fun w' he => ?_, fun w' he => ?_⟩
  · have := hc 0 (by omega) w' he
    rw [add_zero_] at this
    simpa [Ce.cells] using this
  · have := hc 1 (by omega) w' he
    rw [add_lit _ _ (by omega)] at this
    simpa [Ce.cells] using this
  · have := hc 2 (by omega) w' he
    rw [add_lit _ _ (by omega)] at this
    simpa [Ce.cells] using this

def Kn.cells (s : Kn) : List Value := [vint s.at_.x, vint s.at_.y, vint s.at_.z, vu8 s.dir, vu8 s.srt]
abbrev Kn.val (s : Kn) : Value := .agg #[vint s.at_.x, vint s.at_.y, vint s.at_.z, vu8 s.dir, vu8 s.srt]
def KnRow (w : World) (A : Option Addr) (l : List Kn) : Prop := Row w A (l.map Kn.cells).flatten
theorem KnRow.ext {w w' : World} {A : Option Addr} {l : List Kn} (h : KnRow w A l) (he : Ext w w') : KnRow w' A l := Row.ext h he
theorem KnRow.nil (w : World) (A : Option Addr) : KnRow w A [] := Row.nil w A
theorem Kn.cells_len (l : List Kn) : (l.map Kn.cells).flatten.length = l.length * 5 := by
  rw [flatten_len 5 _ (by simp [Kn.cells]), List.length_map]
theorem KnRow.at_ {w : World} {A : Option Addr} {l : List Kn} (h : KnRow w A l) {k : Nat} (hk : k < l.length) :
    ∃ ad, A = some ad ∧ (∀ w', Ext w w' → w'.cell? (ad.add (k * 5)) = some (.int .i64 (knA l k).at_.x)) ∧
      (∀ w', Ext w w' → w'.cell? ⟨(ad.add (k * 5)).block, (ad.add (k * 5)).off + 1, none⟩ = some (.int .i64 (knA l k).at_.y)) ∧
      (∀ w', Ext w w' → w'.cell? ⟨(ad.add (k * 5)).block, (ad.add (k * 5)).off + 2, none⟩ = some (.int .i64 (knA l k).at_.z)) ∧
      (∀ w', Ext w w' → w'.cell? ⟨(ad.add (k * 5)).block, (ad.add (k * 5)).off + 3, none⟩ = some (.int .u8 (knA l k).dir)) ∧
      (∀ w', Ext w w' → w'.cell? ⟨(ad.add (k * 5)).block, (ad.add (k * 5)).off + 4, none⟩ = some (.int .u8 (knA l k).srt)) := by
  rw [knA_at hk]
  obtain ⟨ad, ha, hc⟩ := Row.struct (size := 5) h (by simp [Kn.cells]) (k := k) (by simpa using hk) (by omega)
  refine ⟨ad, ha, fun w' he => ?_, fun w' he => ?_, fun w' he => ?_, fun w' he => ?_, fun w' he => ?_⟩
  · have := hc 0 (by omega) w' he
    rw [add_zero_] at this
    simpa [Kn.cells] using this
  · have := hc 1 (by omega) w' he
    rw [add_lit _ _ (by omega)] at this
    simpa [Kn.cells] using this
  · have := hc 2 (by omega) w' he
    rw [add_lit _ _ (by omega)] at this
    simpa [Kn.cells] using this
  · have := hc 3 (by omega) w' he
    rw [add_lit _ _ (by omega)] at this
    simpa [Kn.cells] using this
  · have := hc 4 (by omega) w' he
    rw [add_lit _ _ (by omega)] at this
    simpa [Kn.cells] using this

def Br.cells (s : Br) : List Value := [vint s.kind, vint s.at_.x, vint s.at_.y, vint s.at_.z, vu8 s.trn, vu8 s.col]
abbrev Br.val (s : Br) : Value := .agg #[vint s.kind, vint s.at_.x, vint s.at_.y, vint s.at_.z, vu8 s.trn, vu8 s.col]
def BrRow (w : World) (A : Option Addr) (l : List Br) : Prop := Row w A (l.map Br.cells).flatten
theorem BrRow.ext {w w' : World} {A : Option Addr} {l : List Br} (h : BrRow w A l) (he : Ext w w') : BrRow w' A l := Row.ext h he
theorem BrRow.at_ {w : World} {A : Option Addr} {l : List Br} (h : BrRow w A l) {k : Nat} (hk : k < l.length) :
    ∃ ad, A = some ad ∧ (∀ w', Ext w w' → w'.cell? (ad.add (k * 6)) = some (.int .i64 (brA l k).kind)) ∧
      (∀ w', Ext w w' → w'.cell? ⟨(ad.add (k * 6)).block, (ad.add (k * 6)).off + 1, none⟩ = some (.int .i64 (brA l k).at_.x)) ∧
      (∀ w', Ext w w' → w'.cell? ⟨(ad.add (k * 6)).block, (ad.add (k * 6)).off + 2, none⟩ = some (.int .i64 (brA l k).at_.y)) ∧
      (∀ w', Ext w w' → w'.cell? ⟨(ad.add (k * 6)).block, (ad.add (k * 6)).off + 3, none⟩ = some (.int .i64 (brA l k).at_.z)) ∧
      (∀ w', Ext w w' → w'.cell? ⟨(ad.add (k * 6)).block, (ad.add (k * 6)).off + 4, none⟩ = some (.int .u8 (brA l k).trn)) ∧
      (∀ w', Ext w w' → w'.cell? ⟨(ad.add (k * 6)).block, (ad.add (k * 6)).off + 5, none⟩ = some (.int .u8 (brA l k).col)) := by
  rw [brA_at hk]
  obtain ⟨ad, ha, hc⟩ := Row.struct (size := 6) h (by simp [Br.cells]) (k := k) (by simpa using hk) (by omega)
  refine ⟨ad, ha, fun w' he => ?_, fun w' he => ?_, fun w' he => ?_, fun w' he => ?_, fun w' he => ?_, fun w' he => ?_⟩
  · have := hc 0 (by omega) w' he
    rw [add_zero_] at this
    simpa [Br.cells] using this
  · have := hc 1 (by omega) w' he
    rw [add_lit _ _ (by omega)] at this
    simpa [Br.cells] using this
  · have := hc 2 (by omega) w' he
    rw [add_lit _ _ (by omega)] at this
    simpa [Br.cells] using this
  · have := hc 3 (by omega) w' he
    rw [add_lit _ _ (by omega)] at this
    simpa [Br.cells] using this
  · have := hc 4 (by omega) w' he
    rw [add_lit _ _ (by omega)] at this
    simpa [Br.cells] using this
  · have := hc 5 (by omega) w' he
    rw [add_lit _ _ (by omega)] at this
    simpa [Br.cells] using this

/-- Kinds: each with the slices of its cells and its knobs. -/
def KiRow (w : World) (A : Option Addr) (l : List Ki) : Prop := ∀ k, k < l.length → ∃ ad B b D d, A = some ad ∧ (∀ w', Ext w w' → w'.cell? (ad.add (k * 3)) = some (.slice B (kiA l k).cs.length b)) ∧
  (∀ w', Ext w w' → w'.cell? ⟨(ad.add (k * 3)).block, (ad.add (k * 3)).off + 1, none⟩ = some (.slice D (kiA l k).ks.length d)) ∧
  (∀ w', Ext w w' → w'.cell? ⟨(ad.add (k * 3)).block, (ad.add (k * 3)).off + 2, none⟩ = some (vint (kiA l k).wt)) ∧ CeRow w B (kiA l k).cs ∧ KnRow w D (kiA l k).ks
theorem KiRow.ext {w w' : World} {A : Option Addr} {l : List Ki} (h : KiRow w A l) (he : Ext w w') : KiRow w' A l := fun k hk => by
  obtain ⟨ad, B, b, D, d, h1, h2, h3, h4, h5, h6⟩ := h k hk
  exact ⟨ad, B, b, D, d, h1, fun w2 h => h2 w2 (he.trans h), fun w2 h => h3 w2 (he.trans h), fun w2 h => h4 w2 (he.trans h), h5.ext he, h6.ext he⟩
theorem KiRow.nil (w : World) (A : Option Addr) : KiRow w A [] := fun k hk => absurd hk (by simp)
end Go.Proofs.YtebkhdhhajjhfaaGreat.Lt

/- Turns of cells, and their order. Plain Lean. -/
namespace Go.Proofs.YtebkhdhhajjhfaaGreat.Lt
def plusC (a b : Ce) : Ce := ⟨a.x + b.x, a.y + b.y, a.z + b.z⟩
def rotZ (c : Ce) : Ce := ⟨-c.y, c.x, c.z⟩
def rotX (c : Ce) : Ce := ⟨c.x, -c.z, c.y⟩
def rotN : Nat → Ce → Ce
  | 0, c => c
  | n + 1, c => rotZ (rotN n c)
def sixth (m : Nat) (c : Ce) : Ce := match m with
  | 0 => c
  | 1 => rotX c
  | 2 => rotX (rotX c)
  | 3 => rotX (rotX (rotX c))
  | 4 => ⟨c.z, c.x, c.y⟩
  | _ => ⟨-c.z, -c.x, c.y⟩
def turnC (c : Ce) (n : Nat) : Ce := sixth (n / 4) (rotN (n % 4) c)
def nearP (c : Ce) (lo hi : Int) : Prop := (lo ≤ c.x ∧ c.x ≤ hi) ∧ (lo ≤ c.y ∧ c.y ≤ hi) ∧ lo ≤ c.z ∧ c.z ≤ hi
instance (c : Ce) (lo hi : Int) : Decidable (nearP c lo hi) := by unfold nearP; infer_instance
def nearB (c : Ce) (lo hi : Int) : Bool := decide (nearP c lo hi)
theorem rotZ_near {c : Ce} {m : Int} (h : nearP c (-m) m) : nearP (rotZ c) (-m) m := by unfold nearP rotZ at *; simp only; omega
theorem rotX_near {c : Ce} {m : Int} (h : nearP c (-m) m) : nearP (rotX c) (-m) m := by unfold nearP rotX at *; simp only; omega
theorem rotN_near {c : Ce} {m : Int} (h : nearP c (-m) m) : ∀ n, nearP (rotN n c) (-m) m
  | 0 => h
  | n + 1 => rotZ_near (rotN_near h n)
theorem sixth_near {c : Ce} {m : Int} (h : nearP c (-m) m) (n : Nat) : nearP (sixth n c) (-m) m := by
  unfold sixth
  split
  · exact h
  · exact rotX_near h
  · exact rotX_near (rotX_near h)
  · exact rotX_near (rotX_near (rotX_near h))
  · unfold nearP at *; simp only; omega
  · unfold nearP at *; simp only; omega
theorem turnC_near {c : Ce} {m : Int} (h : nearP c (-m) m) (n : Nat) : nearP (turnC c n) (-m) m := sixth_near (rotN_near h _) _
theorem rotZ_inj {a b : Ce} (h : rotZ a = rotZ b) : a = b := by
  obtain ⟨a1, a2, a3⟩ := a
  obtain ⟨b1, b2, b3⟩ := b
  simp only [rotZ, Ce.mk.injEq] at h ⊢
  omega
theorem rotX_inj {a b : Ce} (h : rotX a = rotX b) : a = b := by
  obtain ⟨a1, a2, a3⟩ := a
  obtain ⟨b1, b2, b3⟩ := b
  simp only [rotX, Ce.mk.injEq] at h ⊢
  omega
theorem rotN_inj {a b : Ce} : ∀ {n : Nat}, rotN n a = rotN n b → a = b
  | 0, h => h
  | _ + 1, h => rotN_inj (rotZ_inj h)
theorem sixth_inj {a b : Ce} {n : Nat} (h : sixth n a = sixth n b) : a = b := by
  unfold sixth at h
  split at h
  · exact h
  · exact rotX_inj h
  · exact rotX_inj (rotX_inj h)
  · exact rotX_inj (rotX_inj (rotX_inj h))
  · obtain ⟨a1, a2, a3⟩ := a
    obtain ⟨b1, b2, b3⟩ := b
    simp only [Ce.mk.injEq] at h ⊢
    omega
  · obtain ⟨a1, a2, a3⟩ := a
    obtain ⟨b1, b2, b3⟩ := b
    simp only [Ce.mk.injEq] at h ⊢
    omega
theorem turnC_inj {a b : Ce} {n : Nat} (h : turnC a n = turnC b n) : a = b := rotN_inj (sixth_inj h)
theorem plusC_inj {a b c : Ce} (h : plusC a c = plusC b c) : a = b := by
  obtain ⟨a1, a2, a3⟩ := a
  obtain ⟨b1, b2, b3⟩ := b
  simp only [plusC, Ce.mk.injEq] at h ⊢
  omega
/-- The order of cells. -/
def ordC (a b : Ce) : Int := if cmpI a.z b.z ≠ 0 then cmpI a.z b.z else if cmpI a.y b.y ≠ 0 then cmpI a.y b.y else cmpI a.x b.x
theorem cmpI_zero {a b : Int} : cmpI a b = 0 ↔ a = b := by
  unfold cmpI
  by_cases h1 : a < b
  · rw [if_pos h1]; omega
  · by_cases h2 : b < a
    · rw [if_neg h1, if_pos h2]; omega
    · rw [if_neg h1, if_neg h2]; omega
theorem cmpI_neg {a b : Int} : cmpI a b < 0 ↔ a < b := by
  unfold cmpI
  by_cases h1 : a < b
  · rw [if_pos h1]; omega
  · by_cases h2 : b < a
    · rw [if_neg h1, if_pos h2]; omega
    · rw [if_neg h1, if_neg h2]; omega
/-- A cell comes before another one. -/
def befC (a b : Ce) : Prop := a.z < b.z ∨ a.z = b.z ∧ (a.y < b.y ∨ a.y = b.y ∧ a.x < b.x)
theorem ordC_neg {a b : Ce} : ordC a b < 0 ↔ befC a b := by
  unfold ordC befC
  by_cases h1 : cmpI a.z b.z = 0
  · rw [if_neg (by simpa using h1)]
    have e1 := cmpI_zero.1 h1
    by_cases h2 : cmpI a.y b.y = 0
    · rw [if_neg (by simpa using h2), cmpI_neg]
      have e2 := cmpI_zero.1 h2
      omega
    · rw [if_pos h2, cmpI_neg]
      have e2 : a.y ≠ b.y := fun e => h2 (cmpI_zero.2 e)
      omega
  · rw [if_pos h1, cmpI_neg]
    have e1 : a.z ≠ b.z := fun e => h1 (cmpI_zero.2 e)
    omega
theorem befC_irrefl (a : Ce) : ¬ befC a a := by unfold befC; omega
theorem befC_trans {a b c : Ce} (h : befC a b) (k : befC b c) : befC a c := by unfold befC at *; omega
/-- Cells in order are all different. -/
theorem asc_nodup {l : List Ce} (h : ∀ i, i + 1 < l.length → befC (ceA l i) (ceA l (i + 1))) : l.Nodup := by
  have key : ∀ d i, i + (d + 1) < l.length → befC (ceA l i) (ceA l (i + (d + 1))) := by
    intro d
    induction d with
    | zero => intro i hi; exact h i hi
    | succ d ih => intro i hi; exact befC_trans (ih i (by omega)) (h (i + (d + 1)) hi)
  rw [List.nodup_iff_pairwise_ne, List.pairwise_iff_getElem]
  intro i j hi hj hij e
  have h1 := key (j - i - 1) i (by omega)
  rw [show i + (j - i - 1 + 1) = j by omega, ceA_at hi, ceA_at hj, e] at h1
  exact befC_irrefl _ h1
/-- The cells of a brick. -/
def placed (cs : List Ce) (t : Nat) (at_ : Ce) : List Ce := cs.map fun c => plusC (turnC c t) at_
theorem placed_nodup {cs : List Ce} (h : cs.Nodup) (t : Nat) (at_ : Ce) : (placed cs t at_).Nodup := by
  unfold placed List.Nodup
  rw [List.pairwise_map]
  exact h.imp fun {a b} hab e => hab (turnC_inj (plusC_inj e))
theorem placed_near {cs : List Ce} (h : ∀ c ∈ cs, nearP c (-1000) 1000) {at_ : Ce} (hat : nearP at_ (-1000) 1000) (t : Nat) {c : Ce} (hc : c ∈ placed cs t at_) : nearP c (-2000) 2000 := by
  obtain ⟨d, hd, rfl⟩ := List.mem_map.1 hc
  have h1 := turnC_near (h d hd) t
  unfold nearP plusC at *
  simp only
  omega
end Go.Proofs.YtebkhdhhajjhfaaGreat.Lt

/- Cells: in range, sums, turns about an axis; numbers that are turns. -/
namespace Go.Proofs.YtebkhdhhajjhfaaGreat.Lt
open Go.RowKit
theorem results_ce {fn : Func} {t : Tmp} (h : fn.results = #[.cell t 60]) (tmps : Array Value) (w : World) {g : Nat} {u0 u1 u2 : Value} (h8 : tmps.getD t undef = .pointer (some ⟨g, 0, none⟩)) (hb : Blk w g [u0, u1, u2]) :
    (results fn tmps).run Tryz.prog w = .ok (.agg #[u0, u1, u2]) w := by
  rw [Array.getD_eq_getD_getElem?] at h8
  have c0 := hb.c 0 _ rfl
  have c1 := hb.c 1 _ rfl
  have c2 := hb.c 2 _ rfl
  simp [results, h, loadVar, h8, c0, c1, c2, loadCells, loadCellsFrom, asAddr, Addr.add_lit, Result.andThen, go_sem]
set_option maxHeartbeats 1000000 in
theorem near_any (c : Ce) (lo hi : Int) (w : World) : Calls Tryz.prog 57 #[c.val, .int .i64 lo, .int .i64 hi] w fun e w' => e = .returned (.bool (nearB c lo hi)) ∧ Ext w w' := by
  have hb : ∀ b : Bool, (b = true ↔ nearP c lo hi) → b = nearB c lo hi := fun b h => by
    unfold nearB
    cases b <;> simp at h ⊢ <;> exact h
  have Hb := Lib.hid hb
  clear hb
  obtain ⟨x, y, z⟩ := c
  generalize nearB ⟨x, y, z⟩ lo hi = R at Hb ⊢
  go_enter Tryz.func57, Tryz.ntmps57
  go_wp2
  all_goals go_ret
  all_goals refine ⟨ret_b (Hb.out _ ?_), (Ext.refl _).alloc _⟩
  all_goals simp only [nearP]
  all_goals simp
  all_goals omega
set_option maxHeartbeats 1000000 in
theorem plus_any (a b : Ce) (w : World) (ha : nearP a (-1000000) 1000000) (hb : nearP b (-1000000) 1000000) : Calls Tryz.prog 103 #[a.val, b.val] w fun e w' => e = .returned (plusC a b).val ∧ Ext w w' := by
  obtain ⟨a1, a2, a3⟩ := a
  obtain ⟨b1, b2, b3⟩ := b
  obtain ⟨⟨p1, p2⟩, ⟨p3, p4⟩, p5, p6⟩ := ha
  obtain ⟨⟨q1, q2⟩, ⟨q3, q4⟩, q5, q6⟩ := hb
  simp only at p1 p2 p3 p4 p5 p6 q1 q2 q3 q4 q5 q6
  go_enter Tryz.func103, Tryz.ntmps103
  go_wp2
  exact bodyPost_ret (v := (plusC ⟨a1, a2, a3⟩ ⟨b1, b2, b3⟩).val) (by simp [results, Tryz.results103, go_sem, plusC]) rfl ⟨rfl, by simp (maxDischargeDepth := 8)⟩
set_option maxHeartbeats 1000000 in
theorem rotx_any (c : Ce) (w : World) (hc : nearP c (-1000000) 1000000) : Calls Tryz.prog 128 #[c.val] w fun e w' => e = .returned (rotX c).val ∧ Ext w w' := by
  obtain ⟨a1, a2, a3⟩ := c
  obtain ⟨⟨p1, p2⟩, ⟨p3, p4⟩, p5, p6⟩ := hc
  simp only at p1 p2 p3 p4 p5 p6
  have h1 : IntKind.i64.wrap (-a3) = -a3 := by rw [IntKind.wrap_i64]; omega
  have h2 : IntKind.i64.wrap (0 - a3) = -a3 := by rw [IntKind.wrap_i64]; omega
  go_enter Tryz.func128, Tryz.ntmps128
  go_wp2
  exact bodyPost_ret (v := (rotX ⟨a1, a2, a3⟩).val) (by simp [results, Tryz.results128, go_sem, rotX]) rfl ⟨rfl, by simp (maxDischargeDepth := 8)⟩
set_option maxHeartbeats 1000000 in
theorem rot0_any (c : Ce) (w : World) : Calls Tryz.prog 129 #[c.val] w fun e w' => e = .returned c.val ∧ Ext w w' := by
  obtain ⟨a1, a2, a3⟩ := c
  go_enter Tryz.func129, Tryz.ntmps129
  go_wp2
  exact bodyPost_ret (v := (⟨a1, a2, a3⟩ : Ce).val) (by simp [results, Tryz.results129, go_sem]) rfl ⟨rfl, by simp (maxDischargeDepth := 8)⟩
set_option maxHeartbeats 1000000 in
theorem rot4_any (c : Ce) (w : World) : Calls Tryz.prog 132 #[c.val] w fun e w' => e = .returned (⟨c.z, c.x, c.y⟩ : Ce).val ∧ Ext w w' := by
  obtain ⟨a1, a2, a3⟩ := c
  go_enter Tryz.func132, Tryz.ntmps132
  go_wp2
  exact bodyPost_ret (v := (⟨a3, a1, a2⟩ : Ce).val) (by simp [results, Tryz.results132, go_sem]) rfl ⟨rfl, by simp (maxDischargeDepth := 8)⟩
set_option maxHeartbeats 1000000 in
theorem rot5_any (c : Ce) (w : World) (hc : nearP c (-1000000) 1000000) : Calls Tryz.prog 133 #[c.val] w fun e w' => e = .returned (⟨-c.z, -c.x, c.y⟩ : Ce).val ∧ Ext w w' := by
  obtain ⟨a1, a2, a3⟩ := c
  obtain ⟨⟨p1, p2⟩, ⟨p3, p4⟩, p5, p6⟩ := hc
  simp only at p1 p2 p3 p4 p5 p6
  have h1 : IntKind.i64.wrap (-a3) = -a3 := by rw [IntKind.wrap_i64]; omega
  have h2 : IntKind.i64.wrap (0 - a3) = -a3 := by rw [IntKind.wrap_i64]; omega
  have h3 : IntKind.i64.wrap (-a1) = -a1 := by rw [IntKind.wrap_i64]; omega
  have h4 : IntKind.i64.wrap (0 - a1) = -a1 := by rw [IntKind.wrap_i64]; omega
  go_enter Tryz.func133, Tryz.ntmps133
  go_wp2
  exact bodyPost_ret (v := (⟨-a3, -a1, a2⟩ : Ce).val) (by simp [results, Tryz.results133, go_sem]) rfl ⟨rfl, by simp (maxDischargeDepth := 8)⟩
end Go.Proofs.YtebkhdhhajjhfaaGreat.Lt

/- Turns of cells: the six ways, and all 24. -/
namespace Go.Proofs.YtebkhdhhajjhfaaGreat.Lt
open Go.RowKit
set_option maxHeartbeats 1000000 in
theorem turners_any (w : World) : Calls Tryz.prog 91 #[] w fun e w' => ∃ g, e = .returned (.agg #[.func (.func 129) #[] #[], .func (.func 128) #[] #[], .func (.func 130) #[] #[.pointer (some ⟨g, 0, none⟩)], .func (.func 131) #[] #[.pointer (some ⟨g, 0, none⟩)], .func (.func 132) #[] #[], .func (.func 133) #[] #[]]) ∧
    (∀ w2, Ext w' w2 → w2.cell? ⟨g, 0, none⟩ = some (.func (.func 128) #[] #[])) ∧ Ext w w' := by
  have hsf : ∀ (a : Addr) (f : Fn) (x y : Array Value) (w : World), (store a (.func f x y)).run Tryz.prog w = stored Tryz.prog w a (.func f x y) .plain := fun a f x y w => run_store Tryz.prog w a _ .plain rfl
  have hk : ∀ W : World, W.heap.size = w.heap.size + 1 → Blk (W.alloc (.cells #[.func (.func 128) #[] #[]] 191)) (w.heap.size + 1) [.func (.func 128) #[] #[]] := fun W h => Blk.new' h
  have Hk := Lib.hid hk
  clear hk
  go_enter Tryz.func91, Tryz.ntmps91
  go_wp2
  have hb := Hk.out (w.alloc (.cells #[.func (.func 129) #[] #[], .func (.func 128) #[] #[], .func (.func 130) #[] #[.pointer (some ⟨w.heap.size + 1, 0, none⟩)], .func (.func 131) #[] #[.pointer (some ⟨w.heap.size + 1, 0, none⟩)], .func (.func 132) #[] #[], .func (.func 133) #[] #[]] 194)) (by simp)
  refine bodyPost_ret (v := .agg #[.func (.func 129) #[] #[], .func (.func 128) #[] #[], .func (.func 130) #[] #[.pointer (some ⟨w.heap.size + 1, 0, none⟩)], .func (.func 131) #[] #[.pointer (some ⟨w.heap.size + 1, 0, none⟩)], .func (.func 132) #[] #[], .func (.func 133) #[] #[]]) (by simp [results, Tryz.results91, go_sem]) rfl ⟨w.heap.size + 1, rfl, hb.at_ 0 rfl, by simp (maxDischargeDepth := 8)⟩
set_option maxHeartbeats 1000000 in
theorem rot2_any (c : Ce) (g : Nat) (w : World) (hc : nearP c (-1000000) 1000000) (hg : ∀ w2, Ext w w2 → w2.cell? ⟨g, 0, none⟩ = some (.func (.func 128) #[] #[])) : Calls Tryz.prog 130 #[c.val, .pointer (some ⟨g, 0, none⟩)] w fun e w' => e = .returned (rotX (rotX c)).val ∧ Ext w w' := by
  have h1 := fun w' => rotx_any c w' hc
  have h2 := fun w' => rotx_any (rotX c) w' (rotX_near hc)
  have H1 := Lib.hid h1
  have H2 := Lib.hid h2
  clear h1 h2 hc
  generalize rotX (rotX c) = c2 at *
  generalize rotX c = c1 at *
  obtain ⟨x, y, z⟩ := c
  obtain ⟨x1, y1, z1⟩ := c1
  obtain ⟨x2, y2, z2⟩ := c2
  have hW : Ext w ((w.alloc (.cells #[.int .i64 x, .int .i64 y, .int .i64 z] 60)).alloc (.cells #[.int .i64 0, .int .i64 0, .int .i64 0] 60)) := by simp
  have kb : Blk ((w.alloc (.cells #[.int .i64 x, .int .i64 y, .int .i64 z] 60)).alloc (.cells #[.int .i64 0, .int .i64 0, .int .i64 0] 60)) w.heap.size [.int .i64 x, .int .i64 y, .int .i64 z] := (Blk.new _ _).ext ((Ext.refl _).alloc _)
  have kz : Whole ((w.alloc (.cells #[.int .i64 x, .int .i64 y, .int .i64 z] 60)).alloc (.cells #[.int .i64 0, .int .i64 0, .int .i64 0] 60)) (w.heap.size + 1) #[.int .i64 0, .int .i64 0, .int .i64 0] 60 := Whole.new (by simp)
  have b0 := kb.at_ 0 rfl
  have b1 := kb.at_ 1 rfl
  have b2 := kb.at_ 2 rfl
  have g0 := fun w2 he => hg w2 (hW.trans he)
  have HW := Lib.hid hW
  have Kz := Lib.hid kz
  clear hg kb kz hW
  go_enter Tryz.func130, Tryz.ntmps130
  go_wp2
  generalize hWW : ((w.alloc (.cells #[.int .i64 x, .int .i64 y, .int .i64 z] 60)).alloc (.cells #[.int .i64 0, .int .i64 0, .int .i64 0] 60)) = W at *
  have HWW := Lib.hid hWW
  clear hWW
  refine Cg.wp_region_calm (p := Cg.extPre) (fr := (fun _ => false)) 5 (fun j _ v _ => (j = 3 → v = .agg #[.int .i64 x1, .int .i64 y1, .int .i64 z1]) ∧ (j = 4 → v = .agg #[.int .i64 x2, .int .i64 y2, .int .i64 z2])) (fun _ _ _ _ _ _ h => h) (by kernel_rfl) (by kernel_rfl) ?_
  simp only [List.take_succ_cons, List.take_zero, List.drop_succ_cons, List.drop_zero]
  refine Cg.calm_quiet Cg.calm_mono_final W (fun _ h => h) 3 (by kernel_rfl) ?_
  simp only [List.take_succ_cons, List.take_zero, List.drop_succ_cons, List.drop_zero]
  repeat (go_big_quiet_step (fail))
  refine wpQuiet_nil ?_
  refine Cg.calm_call Cg.calm_mono_final 128 #[.agg #[.int .i64 x, .int .i64 y, .int .i64 z]] rfl (fun w => ?_) (fun w he hF => ?_) ?_
  · go_simp
  · exact (H1.out w).mono fun e w'' ⟨he', hx⟩ => ⟨_, he', hx, ⟨fun _ => rfl, fun h => (by cases h)⟩, fun h => by cases h⟩
  rintro _ _ _ h _
  cases h.1 rfl
  simp only [Act.put, List.setIfInBounds_toArray, List.set_cons_succ, List.set_cons_zero]
  refine Cg.calm_call Cg.calm_mono_final 128 #[.agg #[.int .i64 x1, .int .i64 y1, .int .i64 z1]] rfl (fun w => ?_) (fun w he hF => ?_) ?_
  · go_simp
  · exact (H2.out w).mono fun e w'' ⟨he', hx⟩ => ⟨_, he', hx, ⟨fun h => (by cases h), fun _ => rfl⟩, fun h => by cases h⟩
  rintro _ _ _ h _
  cases h.2 rfl
  simp only [Act.put, List.setIfInBounds_toArray, List.set_cons_succ, List.set_cons_zero]
  refine Cg.calm_nil fun w3 he3 _ => ?_
  have he3 : Ext W w3 := he3
  have kz := Kz.out.ext he3
  have z0 := kz.cell 0 rfl
  have z1' := kz.cell 1 rfl
  have z2' := kz.cell 2 rfl
  have zf := kz.free
  have hx3 := HW.out.trans he3
  have Hx3 := Lib.hid hx3
  have Kz3 := Lib.hid kz
  clear kz hx3 b0 b1 b2 g0 he3
  go_wp2
  have kq := (((Kz3.out.setCell 0 (.int .i64 x2)).setCell 1 (.int .i64 y2)).setCell 2 (.int .i64 z2)).blk
  refine bodyPost_ret (results_ce rfl _ _ rfl kq) rfl ⟨rfl, ?_⟩
  exact ((Hx3.out.setCell (p := ⟨w.heap.size + 1, 0, none⟩) (by simp) _).setCell (p := ⟨w.heap.size + 1, 1, none⟩) (by simp) _).setCell (p := ⟨w.heap.size + 1, 2, none⟩) (by simp) _
set_option maxHeartbeats 1000000 in
theorem rot3_any (c : Ce) (g : Nat) (w : World) (hc : nearP c (-1000000) 1000000) (hg : ∀ w2, Ext w w2 → w2.cell? ⟨g, 0, none⟩ = some (.func (.func 128) #[] #[])) : Calls Tryz.prog 131 #[c.val, .pointer (some ⟨g, 0, none⟩)] w fun e w' => e = .returned (rotX (rotX (rotX c))).val ∧ Ext w w' := by
  have h1 := fun w' => rotx_any c w' hc
  have h2 := fun w' => rotx_any (rotX c) w' (rotX_near hc)
  have h3 := fun w' => rotx_any (rotX (rotX c)) w' (rotX_near (rotX_near hc))
  have H1 := Lib.hid h1
  have H2 := Lib.hid h2
  have H3 := Lib.hid h3
  clear h1 h2 h3 hc
  generalize rotX (rotX (rotX c)) = c3 at *
  generalize rotX (rotX c) = c2 at *
  generalize rotX c = c1 at *
  obtain ⟨x, y, z⟩ := c
  obtain ⟨x1, y1, z1⟩ := c1
  obtain ⟨x2, y2, z2⟩ := c2
  obtain ⟨x3, y3, z3⟩ := c3
  have hW : Ext w ((w.alloc (.cells #[.int .i64 x, .int .i64 y, .int .i64 z] 60)).alloc (.cells #[.int .i64 0, .int .i64 0, .int .i64 0] 60)) := by simp
  have kb : Blk ((w.alloc (.cells #[.int .i64 x, .int .i64 y, .int .i64 z] 60)).alloc (.cells #[.int .i64 0, .int .i64 0, .int .i64 0] 60)) w.heap.size [.int .i64 x, .int .i64 y, .int .i64 z] := (Blk.new _ _).ext ((Ext.refl _).alloc _)
  have kz : Whole ((w.alloc (.cells #[.int .i64 x, .int .i64 y, .int .i64 z] 60)).alloc (.cells #[.int .i64 0, .int .i64 0, .int .i64 0] 60)) (w.heap.size + 1) #[.int .i64 0, .int .i64 0, .int .i64 0] 60 := Whole.new (by simp)
  have b0 := kb.at_ 0 rfl
  have b1 := kb.at_ 1 rfl
  have b2 := kb.at_ 2 rfl
  have g0 := fun w2 he => hg w2 (hW.trans he)
  have HW := Lib.hid hW
  have Kz := Lib.hid kz
  clear hg kb kz hW
  go_enter Tryz.func131, Tryz.ntmps131
  go_wp2
  generalize hWW : ((w.alloc (.cells #[.int .i64 x, .int .i64 y, .int .i64 z] 60)).alloc (.cells #[.int .i64 0, .int .i64 0, .int .i64 0] 60)) = W at *
  have HWW := Lib.hid hWW
  clear hWW
  refine Cg.wp_region_calm (p := Cg.extPre) (fr := (fun _ => false)) 7 (fun j _ v _ => (j = 4 → v = .agg #[.int .i64 x1, .int .i64 y1, .int .i64 z1]) ∧ (j = 5 → v = .agg #[.int .i64 x2, .int .i64 y2, .int .i64 z2]) ∧ (j = 6 → v = .agg #[.int .i64 x3, .int .i64 y3, .int .i64 z3])) (fun _ _ _ _ _ _ h => h) (by kernel_rfl) (by kernel_rfl) ?_
  simp only [List.take_succ_cons, List.take_zero, List.drop_succ_cons, List.drop_zero]
  refine Cg.calm_quiet Cg.calm_mono_final W (fun _ h => h) 4 (by kernel_rfl) ?_
  simp only [List.take_succ_cons, List.take_zero, List.drop_succ_cons, List.drop_zero]
  repeat (go_big_quiet_step (fail))
  refine wpQuiet_nil ?_
  refine Cg.calm_call Cg.calm_mono_final 128 #[.agg #[.int .i64 x, .int .i64 y, .int .i64 z]] rfl (fun w => ?_) (fun w he hF => ?_) ?_
  · go_simp
  · exact (H1.out w).mono fun e w'' ⟨he', hx⟩ => ⟨_, he', hx, ⟨fun _ => rfl, fun h => (by cases h), fun h => (by cases h)⟩, fun h => by cases h⟩
  rintro _ _ _ h _
  cases h.1 rfl
  simp only [Act.put, List.setIfInBounds_toArray, List.set_cons_succ, List.set_cons_zero]
  refine Cg.calm_call Cg.calm_mono_final 128 #[.agg #[.int .i64 x1, .int .i64 y1, .int .i64 z1]] rfl (fun w => ?_) (fun w he hF => ?_) ?_
  · go_simp
  · exact (H2.out w).mono fun e w'' ⟨he', hx⟩ => ⟨_, he', hx, ⟨fun h => (by cases h), fun _ => rfl, fun h => (by cases h)⟩, fun h => by cases h⟩
  rintro _ _ _ h _
  cases h.2.1 rfl
  simp only [Act.put, List.setIfInBounds_toArray, List.set_cons_succ, List.set_cons_zero]
  refine Cg.calm_call Cg.calm_mono_final 128 #[.agg #[.int .i64 x2, .int .i64 y2, .int .i64 z2]] rfl (fun w => ?_) (fun w he hF => ?_) ?_
  · go_simp
  · exact (H3.out w).mono fun e w'' ⟨he', hx⟩ => ⟨_, he', hx, ⟨fun h => (by cases h), fun h => (by cases h), fun _ => rfl⟩, fun h => by cases h⟩
  rintro _ _ _ h _
  cases h.2.2 rfl
  simp only [Act.put, List.setIfInBounds_toArray, List.set_cons_succ, List.set_cons_zero]
  refine Cg.calm_nil fun w3 he3 _ => ?_
  have he3 : Ext W w3 := he3
  have kz := Kz.out.ext he3
  have z0 := kz.cell 0 rfl
  have z1' := kz.cell 1 rfl
  have z2' := kz.cell 2 rfl
  have zf := kz.free
  have hx3 := HW.out.trans he3
  have Hx3 := Lib.hid hx3
  have Kz3 := Lib.hid kz
  clear kz hx3 b0 b1 b2 g0 he3
  go_wp2
  have kq := (((Kz3.out.setCell 0 (.int .i64 x3)).setCell 1 (.int .i64 y3)).setCell 2 (.int .i64 z3)).blk
  refine bodyPost_ret (results_ce rfl _ _ rfl kq) rfl ⟨rfl, ?_⟩
  exact ((Hx3.out.setCell (p := ⟨w.heap.size + 1, 0, none⟩) (by simp) _).setCell (p := ⟨w.heap.size + 1, 1, none⟩) (by simp) _).setCell (p := ⟨w.heap.size + 1, 2, none⟩) (by simp) _
/-- The cell while it is turned about z. -/
def rotV (k : Nat) (c : Ce) : Array Value := #[.int .i64 (rotN k c).x, .int .i64 (rotN k c).y, .int .i64 (rotN k c).z]
set_option maxHeartbeats 4000000 in
set_option maxRecDepth 100000 in
theorem turn_any (c : Ce) (n : Nat) (hn : n < 24) (w : World) (hc : nearP c (-1000000) 1000000) : Calls Tryz.prog 59 #[c.val, .int .i64 n] w fun e w' => e = .returned (turnC c n).val ∧ Ext w w' := by
  have ht := fun w' => turners_any w'
  have hnr := fun k => rotN_near hc k
  have hsucc := fun k => (show rotN (k + 1) c = ⟨-(rotN k c).y, (rotN k c).x, (rotN k c).z⟩ from rfl)
  obtain ⟨r, hr⟩ : ∃ r : Nat, r = n % 4 := ⟨_, rfl⟩
  obtain ⟨m, hm⟩ : ∃ m : Nat, m = n / 4 := ⟨_, rfl⟩
  have hres : turnC c n = sixth m (rotN r c) := by rw [hm, hr]; rfl
  rw [hres]
  have hi1 : (n : Int).tmod 4 = (r : Int) := by rw [hr]; exact (Int.ofNat_tmod n 4).symm
  have hi2 : (n : Int) % 4 = (r : Int) := by omega
  have hi3 : (n : Int).tdiv 4 = (m : Int) := by rw [hm]; exact (Int.ofNat_tdiv n 4).symm
  have hi4 : (n : Int) / 4 = (m : Int) := by omega
  have hm6 : m < 6 := by omega
  have hr4 : r < 4 := by omega
  have hcl : c = rotN 0 c := rfl
  have Ht := Lib.hid ht
  have Hnr := Lib.hid hnr
  have Hsucc := Lib.hid hsucc
  have Hi := Lib.hid (And.intro hi1 (And.intro hi2 (And.intro hi3 hi4)))
  clear ht hnr hsucc hres hr hm hc hi3 hi4
  have hB0 : Whole ((w.alloc (.cells (rotV 0 c) 60)).alloc (.cells #[.int .i64 0, .int .i64 0, .int .i64 0] 60)) w.heap.size (rotV 0 c) 60 := Whole.ext (Whole.new rfl) ((Ext.refl _).alloc _)
  have hZ0 : Whole ((w.alloc (.cells (rotV 0 c) 60)).alloc (.cells #[.int .i64 0, .int .i64 0, .int .i64 0] 60)) (w.heap.size + 1) #[.int .i64 0, .int .i64 0, .int .i64 0] 60 := Whole.new (by simp)
  have hx0 : Ext w ((w.alloc (.cells (rotV 0 c) 60)).alloc (.cells #[.int .i64 0, .int .i64 0, .int .i64 0] 60)) := by simp
  change Whole ((w.alloc (.cells #[.int .i64 c.x, .int .i64 c.y, .int .i64 c.z] 60)).alloc _) _ _ _ at hB0
  change Whole ((w.alloc (.cells #[.int .i64 c.x, .int .i64 c.y, .int .i64 c.z] 60)).alloc _) _ _ _ at hZ0
  change Ext w ((w.alloc (.cells #[.int .i64 c.x, .int .i64 c.y, .int .i64 c.z] 60)).alloc _) at hx0
  clear hcl
  go_enter Tryz.func59, Tryz.ntmps59
  go_wp2
  generalize ((w.alloc (.cells #[.int .i64 c.x, .int .i64 c.y, .int .i64 c.z] 60)).alloc (.cells #[.int .i64 0, .int .i64 0, .int .i64 0] 60)) = W at *
  clear hi1 hi2
  go_loopw [7] (fun i wr => ∃ k : Nat, k ≤ r ∧ i = .int .i64 k ∧ Whole wr w.heap.size (rotV k c) 60 ∧ Whole wr (w.heap.size + 1) #[.int .i64 0, .int .i64 0, .int .i64 0] 60 ∧ Ext w wr) (fun i _ => r - (intOf i).toNat)
  case atStart => exact ⟨0, by omega, rfl, hB0, hZ0, hx0⟩
  case round =>
    clear hB0 hZ0 hx0
    obtain ⟨k, hk, rfl, hB, hZ, hex⟩ := hrel
    by_cases hlt : k < r
    · have hki : (k : Int) < (r : Int) := by omega
      have hs := Hsucc.out k
      obtain ⟨⟨p1, p2⟩, ⟨p3, p4⟩, p5, p6⟩ := Hnr.out k
      unfold rotV at hB
      have hV1 : rotV (k + 1) c = #[.int .i64 (-(rotN k c).y), .int .i64 (rotN k c).x, .int .i64 (rotN k c).z] := by unfold rotV; rw [hs]
      have HV1 := Lib.hid hV1
      clear hV1 hs
      generalize rotN k c = q at *
      obtain ⟨x, y, z⟩ := q
      simp only at p1 p2 p3 p4 p5 p6 hB HV1
      have hw1 : IntKind.i64.wrap (-y) = -y := by rw [IntKind.wrap_i64]; omega
      have hw2 : IntKind.i64.wrap (0 - y) = -y := by rw [IntKind.wrap_i64]; omega
      have c0 := hB.cell 0 rfl
      have c1 := hB.cell 1 rfl
      have c2 := hB.cell 2 rfl
      have cf := hB.free
      have HB := Lib.hid hB
      have HZ := Lib.hid hZ
      have Hex := Lib.hid hex
      clear hB hZ hex
      go_wp2
      have hne : w.heap.size + 1 ≠ w.heap.size := by omega
      have hB2 := ((HB.out.setCell 0 (.int .i64 (-y))).setCell 1 (.int .i64 x)).setCell 2 (.int .i64 z)
      have hB3 : Whole (((wr.setCell ⟨w.heap.size, 0, none⟩ (.int .i64 (-y))).setCell ⟨w.heap.size, 1, none⟩ (.int .i64 x)).setCell ⟨w.heap.size, 2, none⟩ (.int .i64 z)) w.heap.size (rotV (k + 1) c) 60 := by
        rw [HV1.out]
        exact hB2
      have hZ2 := ((HZ.out.farCell hne 0 (.int .i64 (-y))).farCell hne 1 (.int .i64 x)).farCell hne 2 (.int .i64 z)
      have hx2 := ((Hex.out.setCell (p := ⟨w.heap.size, 0, none⟩) (Nat.le_refl _) (.int .i64 (-y))).setCell (p := ⟨w.heap.size, 1, none⟩) (Nat.le_refl _) (.int .i64 x)).setCell (p := ⟨w.heap.size, 2, none⟩) (Nat.le_refl _) (.int .i64 z)
      go_roundw
      case rel => exact ⟨k + 1, by omega, by go_num, hB3, hZ2, hx2⟩
      case measure => simp [intOf]; omega
    · obtain rfl : r = k := by omega
      have hq := Hnr.out r
      unfold rotV at hB
      clear Hsucc Hnr
      obtain ⟨q, hqe⟩ : ∃ q, q = rotN r c := ⟨_, rfl⟩
      rw [← hqe] at hq hB
      have HE := Lib.hid hqe
      clear hqe
      have hq4 := fun w' => rot4_any q w'
      have hq5 := fun w' => rot5_any q w' hq
      have hq0 := fun w' => rot0_any q w'
      have hq1 := fun w' => rotx_any q w' hq
      have hq2 := fun g w' h => rot2_any q g w' hq h
      have hq3 := fun g w' h => rot3_any q g w' hq h
      have Hq0 := Lib.hid hq0
      have Hq1 := Lib.hid hq1
      have Hq2 := Lib.hid hq2
      have Hq3 := Lib.hid hq3
      have Hq4 := Lib.hid hq4
      have Hq5 := Lib.hid hq5
      clear hq hq0 hq1 hq2 hq3 hq4 hq5
      have b0 := hB.blk.at_ 0 rfl
      have b1 := hB.blk.at_ 1 rfl
      have b2 := hB.blk.at_ 2 rfl
      have HZ := Lib.hid hZ
      have Hex := Lib.hid hex
      have hi3 := Hi.out.2.2.1
      have hi4 := Hi.out.2.2.2
      clear hB hZ hex Hi
      have hcase : m = 0 ∨ m = 1 ∨ m = 2 ∨ m = 3 ∨ m = 4 ∨ m = 5 := by omega
      rcases hcase with rfl | rfl | rfl | rfl | rfl | rfl
      · have hix : ∀ (g : Nat) (w : World), (Instr.index 194 (.agg #[.func (.func 129) #[] #[], .func (.func 128) #[] #[], .func (.func 130) #[] #[.pointer (some ⟨g, 0, none⟩)], .func (.func 131) #[] #[.pointer (some ⟨g, 0, none⟩)], .func (.func 132) #[] #[], .func (.func 133) #[] #[]]) (.int .i64 0)).run Tryz.prog w = .ok (.agg #[.func (.func 129) #[] #[]]) w := fun _ _ => by kernel_rfl
        have hfi : ∀ (g : Nat) (w : World), (Instr.field 193 (.agg #[.func (.func 129) #[] #[]]) 0).run Tryz.prog w = .ok (.func (.func 129) #[] #[]) w := fun _ _ => by kernel_rfl
        obtain ⟨o, ho⟩ : ∃ o, o = sixth 0 q := ⟨_, rfl⟩
        have hcall : ∀ (g : Nat) (w' : World), (∀ w2, Ext w' w2 → w2.cell? ⟨g, 0, none⟩ = some (.func (.func 128) #[] #[])) → Calls Tryz.prog 129 #[q.val] w' fun e w'' => e = .returned o.val ∧ Ext w' w'' := fun g w' hg => by
          rw [ho]
          exact Hq0.out w'
        have Hcall := Lib.hid hcall
        have HO := Lib.hid ho
        clear hcall ho Hq0 Hq1 Hq2 Hq3 Hq4 Hq5
        obtain ⟨x, y, z⟩ := q
        obtain ⟨ox, oy, oz⟩ := o
        simp only at b0 b1 b2
        go_wp2
        refine Cg.wp_region_calm (p := Cg.extPre) (fr := (fun _ => false)) 7 (fun j _ v w => (j = 0 → ∃ g, v = .agg #[.func (.func 129) #[] #[], .func (.func 128) #[] #[], .func (.func 130) #[] #[.pointer (some ⟨g, 0, none⟩)], .func (.func 131) #[] #[.pointer (some ⟨g, 0, none⟩)], .func (.func 132) #[] #[], .func (.func 133) #[] #[]] ∧ ∀ w2, Ext w w2 → w2.cell? ⟨g, 0, none⟩ = some (.func (.func 128) #[] #[])) ∧ (j = 6 → v = .agg #[.int .i64 ox, .int .i64 oy, .int .i64 oz])) (fun _ _ _ _ _ hR h => ⟨fun e => (by obtain ⟨g, e1, e2⟩ := h.1 e; exact ⟨g, e1, fun w2 h2 => e2 w2 (Ext.trans hR h2)⟩), h.2⟩) (by kernel_rfl) (by kernel_rfl) ?_
        simp only [List.take_succ_cons, List.take_zero, List.drop_succ_cons, List.drop_zero]
        refine Cg.calm_call Cg.calm_mono_final 91 #[] rfl (fun w => ?_) (fun w he hF => ?_) ?_
        · go_simp
        · exact (Ht.out w).mono fun e w'' ⟨g, he', hg, hx⟩ => ⟨_, he', hx, ⟨fun _ => ⟨g, rfl, hg⟩, fun h => (by cases h)⟩, fun h => by cases h⟩
        rintro _ wg hwg h _
        obtain ⟨g, rfl, hgg⟩ := h.1 rfl
        clear h hgg
        have hix' := hix g
        have hfi' := hfi g
        clear hix hfi
        simp only [Act.put, List.setIfInBounds_toArray, List.set_cons_succ, List.set_cons_zero]
        refine Cg.calm_quiet Cg.calm_mono_final wr (fun _ h => h) 5 (by kernel_rfl) ?_
        simp only [List.take_succ_cons, List.take_zero, List.drop_succ_cons, List.drop_zero]
        repeat (go_big_quiet_step (fail))
        refine wpQuiet_nil ?_
        refine Cg.calm_call Cg.calm_mono_final 129 #[.agg #[.int .i64 x, .int .i64 y, .int .i64 z]] rfl (fun w => ?_) (fun w' he hF => ?_) ?_
        · go_simp
        · obtain ⟨g', e1, e2⟩ := ((hF 0 (by kernel_rfl)).2 rfl).1 (by trivial)
          have eg : g' = g := by simpa using e1.symm
          subst eg
          exact (Hcall.out g' w' e2).mono fun e w'' ⟨he', hx⟩ => ⟨_, he', hx, ⟨fun h => (by cases h), fun _ => rfl⟩, fun h => by cases h⟩
        rintro _ _ _ h _
        cases h.2 rfl
        simp only [Act.put, List.setIfInBounds_toArray, List.set_cons_succ, List.set_cons_zero]
        refine Cg.calm_nil fun w3 he3 _ => ?_
        have he3 : Ext wr w3 := he3
        have kz := HZ.out.ext he3
        have z0 := kz.cell 0 rfl
        have z1' := kz.cell 1 rfl
        have z2' := kz.cell 2 rfl
        have zf := kz.free
        have hx3 := Hex.out.trans he3
        have Hx3 := Lib.hid hx3
        have Kz3 := Lib.hid kz
        clear kz hx3 b0 b1 b2 he3 hix' hfi' hi3 hi4
        go_wp2
        have kq := (((Kz3.out.setCell 0 (.int .i64 ox)).setCell 1 (.int .i64 oy)).setCell 2 (.int .i64 oz)).blk
        refine bodyPost_ret (results_ce rfl _ _ rfl kq) rfl ⟨by rw [← HE.out, ← HO.out], ?_⟩
        exact ((Hx3.out.setCell (p := ⟨w.heap.size + 1, 0, none⟩) (by simp) _).setCell (p := ⟨w.heap.size + 1, 1, none⟩) (by simp) _).setCell (p := ⟨w.heap.size + 1, 2, none⟩) (by simp) _
      · have hix : ∀ (g : Nat) (w : World), (Instr.index 194 (.agg #[.func (.func 129) #[] #[], .func (.func 128) #[] #[], .func (.func 130) #[] #[.pointer (some ⟨g, 0, none⟩)], .func (.func 131) #[] #[.pointer (some ⟨g, 0, none⟩)], .func (.func 132) #[] #[], .func (.func 133) #[] #[]]) (.int .i64 1)).run Tryz.prog w = .ok (.agg #[.func (.func 128) #[] #[]]) w := fun _ _ => by kernel_rfl
        have hfi : ∀ (g : Nat) (w : World), (Instr.field 193 (.agg #[.func (.func 128) #[] #[]]) 0).run Tryz.prog w = .ok (.func (.func 128) #[] #[]) w := fun _ _ => by kernel_rfl
        obtain ⟨o, ho⟩ : ∃ o, o = sixth 1 q := ⟨_, rfl⟩
        have hcall : ∀ (g : Nat) (w' : World), (∀ w2, Ext w' w2 → w2.cell? ⟨g, 0, none⟩ = some (.func (.func 128) #[] #[])) → Calls Tryz.prog 128 #[q.val] w' fun e w'' => e = .returned o.val ∧ Ext w' w'' := fun g w' hg => by
          rw [ho]
          exact Hq1.out w'
        have Hcall := Lib.hid hcall
        have HO := Lib.hid ho
        clear hcall ho Hq0 Hq1 Hq2 Hq3 Hq4 Hq5
        obtain ⟨x, y, z⟩ := q
        obtain ⟨ox, oy, oz⟩ := o
        simp only at b0 b1 b2
        go_wp2
        refine Cg.wp_region_calm (p := Cg.extPre) (fr := (fun _ => false)) 7 (fun j _ v w => (j = 0 → ∃ g, v = .agg #[.func (.func 129) #[] #[], .func (.func 128) #[] #[], .func (.func 130) #[] #[.pointer (some ⟨g, 0, none⟩)], .func (.func 131) #[] #[.pointer (some ⟨g, 0, none⟩)], .func (.func 132) #[] #[], .func (.func 133) #[] #[]] ∧ ∀ w2, Ext w w2 → w2.cell? ⟨g, 0, none⟩ = some (.func (.func 128) #[] #[])) ∧ (j = 6 → v = .agg #[.int .i64 ox, .int .i64 oy, .int .i64 oz])) (fun _ _ _ _ _ hR h => ⟨fun e => (by obtain ⟨g, e1, e2⟩ := h.1 e; exact ⟨g, e1, fun w2 h2 => e2 w2 (Ext.trans hR h2)⟩), h.2⟩) (by kernel_rfl) (by kernel_rfl) ?_
        simp only [List.take_succ_cons, List.take_zero, List.drop_succ_cons, List.drop_zero]
        refine Cg.calm_call Cg.calm_mono_final 91 #[] rfl (fun w => ?_) (fun w he hF => ?_) ?_
        · go_simp
        · exact (Ht.out w).mono fun e w'' ⟨g, he', hg, hx⟩ => ⟨_, he', hx, ⟨fun _ => ⟨g, rfl, hg⟩, fun h => (by cases h)⟩, fun h => by cases h⟩
        rintro _ wg hwg h _
        obtain ⟨g, rfl, hgg⟩ := h.1 rfl
        clear h hgg
        have hix' := hix g
        have hfi' := hfi g
        clear hix hfi
        simp only [Act.put, List.setIfInBounds_toArray, List.set_cons_succ, List.set_cons_zero]
        refine Cg.calm_quiet Cg.calm_mono_final wr (fun _ h => h) 5 (by kernel_rfl) ?_
        simp only [List.take_succ_cons, List.take_zero, List.drop_succ_cons, List.drop_zero]
        repeat (go_big_quiet_step (fail))
        refine wpQuiet_nil ?_
        refine Cg.calm_call Cg.calm_mono_final 128 #[.agg #[.int .i64 x, .int .i64 y, .int .i64 z]] rfl (fun w => ?_) (fun w' he hF => ?_) ?_
        · go_simp
        · obtain ⟨g', e1, e2⟩ := ((hF 0 (by kernel_rfl)).2 rfl).1 (by trivial)
          have eg : g' = g := by simpa using e1.symm
          subst eg
          exact (Hcall.out g' w' e2).mono fun e w'' ⟨he', hx⟩ => ⟨_, he', hx, ⟨fun h => (by cases h), fun _ => rfl⟩, fun h => by cases h⟩
        rintro _ _ _ h _
        cases h.2 rfl
        simp only [Act.put, List.setIfInBounds_toArray, List.set_cons_succ, List.set_cons_zero]
        refine Cg.calm_nil fun w3 he3 _ => ?_
        have he3 : Ext wr w3 := he3
        have kz := HZ.out.ext he3
        have z0 := kz.cell 0 rfl
        have z1' := kz.cell 1 rfl
        have z2' := kz.cell 2 rfl
        have zf := kz.free
        have hx3 := Hex.out.trans he3
        have Hx3 := Lib.hid hx3
        have Kz3 := Lib.hid kz
        clear kz hx3 b0 b1 b2 he3 hix' hfi' hi3 hi4
        go_wp2
        have kq := (((Kz3.out.setCell 0 (.int .i64 ox)).setCell 1 (.int .i64 oy)).setCell 2 (.int .i64 oz)).blk
        refine bodyPost_ret (results_ce rfl _ _ rfl kq) rfl ⟨by rw [← HE.out, ← HO.out], ?_⟩
        exact ((Hx3.out.setCell (p := ⟨w.heap.size + 1, 0, none⟩) (by simp) _).setCell (p := ⟨w.heap.size + 1, 1, none⟩) (by simp) _).setCell (p := ⟨w.heap.size + 1, 2, none⟩) (by simp) _
      · have hix : ∀ (g : Nat) (w : World), (Instr.index 194 (.agg #[.func (.func 129) #[] #[], .func (.func 128) #[] #[], .func (.func 130) #[] #[.pointer (some ⟨g, 0, none⟩)], .func (.func 131) #[] #[.pointer (some ⟨g, 0, none⟩)], .func (.func 132) #[] #[], .func (.func 133) #[] #[]]) (.int .i64 2)).run Tryz.prog w = .ok (.agg #[.func (.func 130) #[] #[.pointer (some ⟨g, 0, none⟩)]]) w := fun _ _ => by kernel_rfl
        have hfi : ∀ (g : Nat) (w : World), (Instr.field 193 (.agg #[.func (.func 130) #[] #[.pointer (some ⟨g, 0, none⟩)]]) 0).run Tryz.prog w = .ok (.func (.func 130) #[] #[.pointer (some ⟨g, 0, none⟩)]) w := fun _ _ => by kernel_rfl
        obtain ⟨o, ho⟩ : ∃ o, o = sixth 2 q := ⟨_, rfl⟩
        have hcall : ∀ (g : Nat) (w' : World), (∀ w2, Ext w' w2 → w2.cell? ⟨g, 0, none⟩ = some (.func (.func 128) #[] #[])) → Calls Tryz.prog 130 #[q.val, .pointer (some ⟨g, 0, none⟩)] w' fun e w'' => e = .returned o.val ∧ Ext w' w'' := fun g w' hg => by
          rw [ho]
          exact Hq2.out g w' hg
        have Hcall := Lib.hid hcall
        have HO := Lib.hid ho
        clear hcall ho Hq0 Hq1 Hq2 Hq3 Hq4 Hq5
        obtain ⟨x, y, z⟩ := q
        obtain ⟨ox, oy, oz⟩ := o
        simp only at b0 b1 b2
        go_wp2
        refine Cg.wp_region_calm (p := Cg.extPre) (fr := (fun _ => false)) 7 (fun j _ v w => (j = 0 → ∃ g, v = .agg #[.func (.func 129) #[] #[], .func (.func 128) #[] #[], .func (.func 130) #[] #[.pointer (some ⟨g, 0, none⟩)], .func (.func 131) #[] #[.pointer (some ⟨g, 0, none⟩)], .func (.func 132) #[] #[], .func (.func 133) #[] #[]] ∧ ∀ w2, Ext w w2 → w2.cell? ⟨g, 0, none⟩ = some (.func (.func 128) #[] #[])) ∧ (j = 6 → v = .agg #[.int .i64 ox, .int .i64 oy, .int .i64 oz])) (fun _ _ _ _ _ hR h => ⟨fun e => (by obtain ⟨g, e1, e2⟩ := h.1 e; exact ⟨g, e1, fun w2 h2 => e2 w2 (Ext.trans hR h2)⟩), h.2⟩) (by kernel_rfl) (by kernel_rfl) ?_
        simp only [List.take_succ_cons, List.take_zero, List.drop_succ_cons, List.drop_zero]
        refine Cg.calm_call Cg.calm_mono_final 91 #[] rfl (fun w => ?_) (fun w he hF => ?_) ?_
        · go_simp
        · exact (Ht.out w).mono fun e w'' ⟨g, he', hg, hx⟩ => ⟨_, he', hx, ⟨fun _ => ⟨g, rfl, hg⟩, fun h => (by cases h)⟩, fun h => by cases h⟩
        rintro _ wg hwg h _
        obtain ⟨g, rfl, hgg⟩ := h.1 rfl
        clear h hgg
        have hix' := hix g
        have hfi' := hfi g
        clear hix hfi
        simp only [Act.put, List.setIfInBounds_toArray, List.set_cons_succ, List.set_cons_zero]
        refine Cg.calm_quiet Cg.calm_mono_final wr (fun _ h => h) 5 (by kernel_rfl) ?_
        simp only [List.take_succ_cons, List.take_zero, List.drop_succ_cons, List.drop_zero]
        repeat (go_big_quiet_step (fail))
        refine wpQuiet_nil ?_
        refine Cg.calm_call Cg.calm_mono_final 130 #[.agg #[.int .i64 x, .int .i64 y, .int .i64 z], .pointer (some ⟨g, 0, none⟩)] rfl (fun w => ?_) (fun w' he hF => ?_) ?_
        · go_simp
        · obtain ⟨g', e1, e2⟩ := ((hF 0 (by kernel_rfl)).2 rfl).1 (by trivial)
          have eg : g' = g := by simpa using e1.symm
          subst eg
          exact (Hcall.out g' w' e2).mono fun e w'' ⟨he', hx⟩ => ⟨_, he', hx, ⟨fun h => (by cases h), fun _ => rfl⟩, fun h => by cases h⟩
        rintro _ _ _ h _
        cases h.2 rfl
        simp only [Act.put, List.setIfInBounds_toArray, List.set_cons_succ, List.set_cons_zero]
        refine Cg.calm_nil fun w3 he3 _ => ?_
        have he3 : Ext wr w3 := he3
        have kz := HZ.out.ext he3
        have z0 := kz.cell 0 rfl
        have z1' := kz.cell 1 rfl
        have z2' := kz.cell 2 rfl
        have zf := kz.free
        have hx3 := Hex.out.trans he3
        have Hx3 := Lib.hid hx3
        have Kz3 := Lib.hid kz
        clear kz hx3 b0 b1 b2 he3 hix' hfi' hi3 hi4
        go_wp2
        have kq := (((Kz3.out.setCell 0 (.int .i64 ox)).setCell 1 (.int .i64 oy)).setCell 2 (.int .i64 oz)).blk
        refine bodyPost_ret (results_ce rfl _ _ rfl kq) rfl ⟨by rw [← HE.out, ← HO.out], ?_⟩
        exact ((Hx3.out.setCell (p := ⟨w.heap.size + 1, 0, none⟩) (by simp) _).setCell (p := ⟨w.heap.size + 1, 1, none⟩) (by simp) _).setCell (p := ⟨w.heap.size + 1, 2, none⟩) (by simp) _
      · have hix : ∀ (g : Nat) (w : World), (Instr.index 194 (.agg #[.func (.func 129) #[] #[], .func (.func 128) #[] #[], .func (.func 130) #[] #[.pointer (some ⟨g, 0, none⟩)], .func (.func 131) #[] #[.pointer (some ⟨g, 0, none⟩)], .func (.func 132) #[] #[], .func (.func 133) #[] #[]]) (.int .i64 3)).run Tryz.prog w = .ok (.agg #[.func (.func 131) #[] #[.pointer (some ⟨g, 0, none⟩)]]) w := fun _ _ => by kernel_rfl
        have hfi : ∀ (g : Nat) (w : World), (Instr.field 193 (.agg #[.func (.func 131) #[] #[.pointer (some ⟨g, 0, none⟩)]]) 0).run Tryz.prog w = .ok (.func (.func 131) #[] #[.pointer (some ⟨g, 0, none⟩)]) w := fun _ _ => by kernel_rfl
        obtain ⟨o, ho⟩ : ∃ o, o = sixth 3 q := ⟨_, rfl⟩
        have hcall : ∀ (g : Nat) (w' : World), (∀ w2, Ext w' w2 → w2.cell? ⟨g, 0, none⟩ = some (.func (.func 128) #[] #[])) → Calls Tryz.prog 131 #[q.val, .pointer (some ⟨g, 0, none⟩)] w' fun e w'' => e = .returned o.val ∧ Ext w' w'' := fun g w' hg => by
          rw [ho]
          exact Hq3.out g w' hg
        have Hcall := Lib.hid hcall
        have HO := Lib.hid ho
        clear hcall ho Hq0 Hq1 Hq2 Hq3 Hq4 Hq5
        obtain ⟨x, y, z⟩ := q
        obtain ⟨ox, oy, oz⟩ := o
        simp only at b0 b1 b2
        go_wp2
        refine Cg.wp_region_calm (p := Cg.extPre) (fr := (fun _ => false)) 7 (fun j _ v w => (j = 0 → ∃ g, v = .agg #[.func (.func 129) #[] #[], .func (.func 128) #[] #[], .func (.func 130) #[] #[.pointer (some ⟨g, 0, none⟩)], .func (.func 131) #[] #[.pointer (some ⟨g, 0, none⟩)], .func (.func 132) #[] #[], .func (.func 133) #[] #[]] ∧ ∀ w2, Ext w w2 → w2.cell? ⟨g, 0, none⟩ = some (.func (.func 128) #[] #[])) ∧ (j = 6 → v = .agg #[.int .i64 ox, .int .i64 oy, .int .i64 oz])) (fun _ _ _ _ _ hR h => ⟨fun e => (by obtain ⟨g, e1, e2⟩ := h.1 e; exact ⟨g, e1, fun w2 h2 => e2 w2 (Ext.trans hR h2)⟩), h.2⟩) (by kernel_rfl) (by kernel_rfl) ?_
        simp only [List.take_succ_cons, List.take_zero, List.drop_succ_cons, List.drop_zero]
        refine Cg.calm_call Cg.calm_mono_final 91 #[] rfl (fun w => ?_) (fun w he hF => ?_) ?_
        · go_simp
        · exact (Ht.out w).mono fun e w'' ⟨g, he', hg, hx⟩ => ⟨_, he', hx, ⟨fun _ => ⟨g, rfl, hg⟩, fun h => (by cases h)⟩, fun h => by cases h⟩
        rintro _ wg hwg h _
        obtain ⟨g, rfl, hgg⟩ := h.1 rfl
        clear h hgg
        have hix' := hix g
        have hfi' := hfi g
        clear hix hfi
        simp only [Act.put, List.setIfInBounds_toArray, List.set_cons_succ, List.set_cons_zero]
        refine Cg.calm_quiet Cg.calm_mono_final wr (fun _ h => h) 5 (by kernel_rfl) ?_
        simp only [List.take_succ_cons, List.take_zero, List.drop_succ_cons, List.drop_zero]
        repeat (go_big_quiet_step (fail))
        refine wpQuiet_nil ?_
        refine Cg.calm_call Cg.calm_mono_final 131 #[.agg #[.int .i64 x, .int .i64 y, .int .i64 z], .pointer (some ⟨g, 0, none⟩)] rfl (fun w => ?_) (fun w' he hF => ?_) ?_
        · go_simp
        · obtain ⟨g', e1, e2⟩ := ((hF 0 (by kernel_rfl)).2 rfl).1 (by trivial)
          have eg : g' = g := by simpa using e1.symm
          subst eg
          exact (Hcall.out g' w' e2).mono fun e w'' ⟨he', hx⟩ => ⟨_, he', hx, ⟨fun h => (by cases h), fun _ => rfl⟩, fun h => by cases h⟩
        rintro _ _ _ h _
        cases h.2 rfl
        simp only [Act.put, List.setIfInBounds_toArray, List.set_cons_succ, List.set_cons_zero]
        refine Cg.calm_nil fun w3 he3 _ => ?_
        have he3 : Ext wr w3 := he3
        have kz := HZ.out.ext he3
        have z0 := kz.cell 0 rfl
        have z1' := kz.cell 1 rfl
        have z2' := kz.cell 2 rfl
        have zf := kz.free
        have hx3 := Hex.out.trans he3
        have Hx3 := Lib.hid hx3
        have Kz3 := Lib.hid kz
        clear kz hx3 b0 b1 b2 he3 hix' hfi' hi3 hi4
        go_wp2
        have kq := (((Kz3.out.setCell 0 (.int .i64 ox)).setCell 1 (.int .i64 oy)).setCell 2 (.int .i64 oz)).blk
        refine bodyPost_ret (results_ce rfl _ _ rfl kq) rfl ⟨by rw [← HE.out, ← HO.out], ?_⟩
        exact ((Hx3.out.setCell (p := ⟨w.heap.size + 1, 0, none⟩) (by simp) _).setCell (p := ⟨w.heap.size + 1, 1, none⟩) (by simp) _).setCell (p := ⟨w.heap.size + 1, 2, none⟩) (by simp) _
      · have hix : ∀ (g : Nat) (w : World), (Instr.index 194 (.agg #[.func (.func 129) #[] #[], .func (.func 128) #[] #[], .func (.func 130) #[] #[.pointer (some ⟨g, 0, none⟩)], .func (.func 131) #[] #[.pointer (some ⟨g, 0, none⟩)], .func (.func 132) #[] #[], .func (.func 133) #[] #[]]) (.int .i64 4)).run Tryz.prog w = .ok (.agg #[.func (.func 132) #[] #[]]) w := fun _ _ => by kernel_rfl
        have hfi : ∀ (g : Nat) (w : World), (Instr.field 193 (.agg #[.func (.func 132) #[] #[]]) 0).run Tryz.prog w = .ok (.func (.func 132) #[] #[]) w := fun _ _ => by kernel_rfl
        obtain ⟨o, ho⟩ : ∃ o, o = sixth 4 q := ⟨_, rfl⟩
        have hcall : ∀ (g : Nat) (w' : World), (∀ w2, Ext w' w2 → w2.cell? ⟨g, 0, none⟩ = some (.func (.func 128) #[] #[])) → Calls Tryz.prog 132 #[q.val] w' fun e w'' => e = .returned o.val ∧ Ext w' w'' := fun g w' hg => by
          rw [ho]
          exact Hq4.out w'
        have Hcall := Lib.hid hcall
        have HO := Lib.hid ho
        clear hcall ho Hq0 Hq1 Hq2 Hq3 Hq4 Hq5
        obtain ⟨x, y, z⟩ := q
        obtain ⟨ox, oy, oz⟩ := o
        simp only at b0 b1 b2
        go_wp2
        refine Cg.wp_region_calm (p := Cg.extPre) (fr := (fun _ => false)) 7 (fun j _ v w => (j = 0 → ∃ g, v = .agg #[.func (.func 129) #[] #[], .func (.func 128) #[] #[], .func (.func 130) #[] #[.pointer (some ⟨g, 0, none⟩)], .func (.func 131) #[] #[.pointer (some ⟨g, 0, none⟩)], .func (.func 132) #[] #[], .func (.func 133) #[] #[]] ∧ ∀ w2, Ext w w2 → w2.cell? ⟨g, 0, none⟩ = some (.func (.func 128) #[] #[])) ∧ (j = 6 → v = .agg #[.int .i64 ox, .int .i64 oy, .int .i64 oz])) (fun _ _ _ _ _ hR h => ⟨fun e => (by obtain ⟨g, e1, e2⟩ := h.1 e; exact ⟨g, e1, fun w2 h2 => e2 w2 (Ext.trans hR h2)⟩), h.2⟩) (by kernel_rfl) (by kernel_rfl) ?_
        simp only [List.take_succ_cons, List.take_zero, List.drop_succ_cons, List.drop_zero]
        refine Cg.calm_call Cg.calm_mono_final 91 #[] rfl (fun w => ?_) (fun w he hF => ?_) ?_
        · go_simp
        · exact (Ht.out w).mono fun e w'' ⟨g, he', hg, hx⟩ => ⟨_, he', hx, ⟨fun _ => ⟨g, rfl, hg⟩, fun h => (by cases h)⟩, fun h => by cases h⟩
        rintro _ wg hwg h _
        obtain ⟨g, rfl, hgg⟩ := h.1 rfl
        clear h hgg
        have hix' := hix g
        have hfi' := hfi g
        clear hix hfi
        simp only [Act.put, List.setIfInBounds_toArray, List.set_cons_succ, List.set_cons_zero]
        refine Cg.calm_quiet Cg.calm_mono_final wr (fun _ h => h) 5 (by kernel_rfl) ?_
        simp only [List.take_succ_cons, List.take_zero, List.drop_succ_cons, List.drop_zero]
        repeat (go_big_quiet_step (fail))
        refine wpQuiet_nil ?_
        refine Cg.calm_call Cg.calm_mono_final 132 #[.agg #[.int .i64 x, .int .i64 y, .int .i64 z]] rfl (fun w => ?_) (fun w' he hF => ?_) ?_
        · go_simp
        · obtain ⟨g', e1, e2⟩ := ((hF 0 (by kernel_rfl)).2 rfl).1 (by trivial)
          have eg : g' = g := by simpa using e1.symm
          subst eg
          exact (Hcall.out g' w' e2).mono fun e w'' ⟨he', hx⟩ => ⟨_, he', hx, ⟨fun h => (by cases h), fun _ => rfl⟩, fun h => by cases h⟩
        rintro _ _ _ h _
        cases h.2 rfl
        simp only [Act.put, List.setIfInBounds_toArray, List.set_cons_succ, List.set_cons_zero]
        refine Cg.calm_nil fun w3 he3 _ => ?_
        have he3 : Ext wr w3 := he3
        have kz := HZ.out.ext he3
        have z0 := kz.cell 0 rfl
        have z1' := kz.cell 1 rfl
        have z2' := kz.cell 2 rfl
        have zf := kz.free
        have hx3 := Hex.out.trans he3
        have Hx3 := Lib.hid hx3
        have Kz3 := Lib.hid kz
        clear kz hx3 b0 b1 b2 he3 hix' hfi' hi3 hi4
        go_wp2
        have kq := (((Kz3.out.setCell 0 (.int .i64 ox)).setCell 1 (.int .i64 oy)).setCell 2 (.int .i64 oz)).blk
        refine bodyPost_ret (results_ce rfl _ _ rfl kq) rfl ⟨by rw [← HE.out, ← HO.out], ?_⟩
        exact ((Hx3.out.setCell (p := ⟨w.heap.size + 1, 0, none⟩) (by simp) _).setCell (p := ⟨w.heap.size + 1, 1, none⟩) (by simp) _).setCell (p := ⟨w.heap.size + 1, 2, none⟩) (by simp) _
      · have hix : ∀ (g : Nat) (w : World), (Instr.index 194 (.agg #[.func (.func 129) #[] #[], .func (.func 128) #[] #[], .func (.func 130) #[] #[.pointer (some ⟨g, 0, none⟩)], .func (.func 131) #[] #[.pointer (some ⟨g, 0, none⟩)], .func (.func 132) #[] #[], .func (.func 133) #[] #[]]) (.int .i64 5)).run Tryz.prog w = .ok (.agg #[.func (.func 133) #[] #[]]) w := fun _ _ => by kernel_rfl
        have hfi : ∀ (g : Nat) (w : World), (Instr.field 193 (.agg #[.func (.func 133) #[] #[]]) 0).run Tryz.prog w = .ok (.func (.func 133) #[] #[]) w := fun _ _ => by kernel_rfl
        obtain ⟨o, ho⟩ : ∃ o, o = sixth 5 q := ⟨_, rfl⟩
        have hcall : ∀ (g : Nat) (w' : World), (∀ w2, Ext w' w2 → w2.cell? ⟨g, 0, none⟩ = some (.func (.func 128) #[] #[])) → Calls Tryz.prog 133 #[q.val] w' fun e w'' => e = .returned o.val ∧ Ext w' w'' := fun g w' hg => by
          rw [ho]
          exact Hq5.out w'
        have Hcall := Lib.hid hcall
        have HO := Lib.hid ho
        clear hcall ho Hq0 Hq1 Hq2 Hq3 Hq4 Hq5
        obtain ⟨x, y, z⟩ := q
        obtain ⟨ox, oy, oz⟩ := o
        simp only at b0 b1 b2
        go_wp2
        refine Cg.wp_region_calm (p := Cg.extPre) (fr := (fun _ => false)) 7 (fun j _ v w => (j = 0 → ∃ g, v = .agg #[.func (.func 129) #[] #[], .func (.func 128) #[] #[], .func (.func 130) #[] #[.pointer (some ⟨g, 0, none⟩)], .func (.func 131) #[] #[.pointer (some ⟨g, 0, none⟩)], .func (.func 132) #[] #[], .func (.func 133) #[] #[]] ∧ ∀ w2, Ext w w2 → w2.cell? ⟨g, 0, none⟩ = some (.func (.func 128) #[] #[])) ∧ (j = 6 → v = .agg #[.int .i64 ox, .int .i64 oy, .int .i64 oz])) (fun _ _ _ _ _ hR h => ⟨fun e => (by obtain ⟨g, e1, e2⟩ := h.1 e; exact ⟨g, e1, fun w2 h2 => e2 w2 (Ext.trans hR h2)⟩), h.2⟩) (by kernel_rfl) (by kernel_rfl) ?_
        simp only [List.take_succ_cons, List.take_zero, List.drop_succ_cons, List.drop_zero]
        refine Cg.calm_call Cg.calm_mono_final 91 #[] rfl (fun w => ?_) (fun w he hF => ?_) ?_
        · go_simp
        · exact (Ht.out w).mono fun e w'' ⟨g, he', hg, hx⟩ => ⟨_, he', hx, ⟨fun _ => ⟨g, rfl, hg⟩, fun h => (by cases h)⟩, fun h => by cases h⟩
        rintro _ wg hwg h _
        obtain ⟨g, rfl, hgg⟩ := h.1 rfl
        clear h hgg
        have hix' := hix g
        have hfi' := hfi g
        clear hix hfi
        simp only [Act.put, List.setIfInBounds_toArray, List.set_cons_succ, List.set_cons_zero]
        refine Cg.calm_quiet Cg.calm_mono_final wr (fun _ h => h) 5 (by kernel_rfl) ?_
        simp only [List.take_succ_cons, List.take_zero, List.drop_succ_cons, List.drop_zero]
        repeat (go_big_quiet_step (fail))
        refine wpQuiet_nil ?_
        refine Cg.calm_call Cg.calm_mono_final 133 #[.agg #[.int .i64 x, .int .i64 y, .int .i64 z]] rfl (fun w => ?_) (fun w' he hF => ?_) ?_
        · go_simp
        · obtain ⟨g', e1, e2⟩ := ((hF 0 (by kernel_rfl)).2 rfl).1 (by trivial)
          have eg : g' = g := by simpa using e1.symm
          subst eg
          exact (Hcall.out g' w' e2).mono fun e w'' ⟨he', hx⟩ => ⟨_, he', hx, ⟨fun h => (by cases h), fun _ => rfl⟩, fun h => by cases h⟩
        rintro _ _ _ h _
        cases h.2 rfl
        simp only [Act.put, List.setIfInBounds_toArray, List.set_cons_succ, List.set_cons_zero]
        refine Cg.calm_nil fun w3 he3 _ => ?_
        have he3 : Ext wr w3 := he3
        have kz := HZ.out.ext he3
        have z0 := kz.cell 0 rfl
        have z1' := kz.cell 1 rfl
        have z2' := kz.cell 2 rfl
        have zf := kz.free
        have hx3 := Hex.out.trans he3
        have Hx3 := Lib.hid hx3
        have Kz3 := Lib.hid kz
        clear kz hx3 b0 b1 b2 he3 hix' hfi' hi3 hi4
        go_wp2
        have kq := (((Kz3.out.setCell 0 (.int .i64 ox)).setCell 1 (.int .i64 oy)).setCell 2 (.int .i64 oz)).blk
        refine bodyPost_ret (results_ce rfl _ _ rfl kq) rfl ⟨by rw [← HE.out, ← HO.out], ?_⟩
        exact ((Hx3.out.setCell (p := ⟨w.heap.size + 1, 0, none⟩) (by simp) _).setCell (p := ⟨w.heap.size + 1, 1, none⟩) (by simp) _).setCell (p := ⟨w.heap.size + 1, 2, none⟩) (by simp) _
end Go.Proofs.YtebkhdhhajjhfaaGreat.Lt

/- The order of cells: a call leaves draws and new blocks behind, and nothing else. -/
namespace Go.Proofs.YtebkhdhhajjhfaaGreat.Lt
open Go.RowKit Go.Sort
/-- The growth of worlds by draws and new blocks alone. -/
def Grown (w w' : World) : Prop := ∃ q os, w' = grow (w.drewN q) os
theorem Grown.refl (w : World) : Grown w w := ⟨0, #[], by rw [grow_empty]; rfl⟩
theorem Grown.trans {a b c : World} (h : Grown a b) (k : Grown b c) : Grown a c := by
  obtain ⟨q, os, rfl⟩ := h
  obtain ⟨q', os', rfl⟩ := k
  exact ⟨q + q', os ++ os', by show grow (grow ((a.drewN q).drewN q') os) os' = _; rw [grow_grow, World.drewN_drewN]⟩
theorem Grown.alloc {a w : World} (h : Grown a w) (o : Obj) : Grown a (w.alloc o) := h.trans ⟨0, #[o], alloc_eq_grow w o⟩
theorem Grown.drawn {a w : World} (h : Grown a w) : Grown a { w with drawn := w.drawn + 1 } := h.trans ⟨1, #[], by rw [grow_empty]; rfl⟩
theorem Grown.ext {w w' : World} (h : Grown w w') : Ext w w' := by
  obtain ⟨q, os, rfl⟩ := h
  refine ⟨rfl, rfl, rfl, by simp [grow], fun k hk => ?_⟩
  exact heap_grow_old (w.drewN q) os hk
def growPre : Cg.Pre := ⟨Grown, Grown.refl, Grown.trans, Grown.drawn, fun h => h.ext.le⟩
theorem row_heap {w : World} {b : Nat} {l : List Value} {t : TypeId} (h : w.heap[b]? = some (.cells l.toArray t)) : Row w (some ⟨b, 0, none⟩) l := fun k hk => ⟨_, rfl, by rw [add_zero', cell_heap h]; simp⟩
set_option maxHeartbeats 1000000 in
theorem or_any (A : Option Addr) (c : Nat) (l : List Int) (w : World) (hA : Ints w A l) (hl : l.length ≤ 1000) : Calls Tryz.prog 143 #[.slice A l.length c] w fun e w' => e = .returned (.int .i64 ((l.find? fun x => x != 0).getD 0)) ∧ w = w' := by
  have ha := fun k (hk : k < l.length) => hA.some_ (by omega : 0 < l.length)
  have hy : (∀ k, k < l.length → getI l k = 0) → (0 : Int) = (l.find? fun x => x != 0).getD 0 := fun h => by
    have : l.find? (fun x => x != 0) = none := by
      rw [List.find?_eq_none]
      intro x hx
      obtain ⟨k, hk, rfl⟩ := List.getElem_of_mem hx
      have := h k hk
      rw [getI_eq hk] at this
      simp [this]
    rw [this]
    rfl
  have hn : ∀ k, k < l.length → (∀ j, j < k → getI l j = 0) → getI l k ≠ 0 → getI l k = (l.find? fun x => x != 0).getD 0 := fun k hk hj h => by
    have e : l = l.take k ++ l[k] :: l.drop (k + 1) := by rw [← List.drop_eq_getElem_cons hk, List.take_append_drop]
    have h1 : (l.take k).find? (fun x => x != 0) = none := by
      rw [List.find?_eq_none]
      intro x hx
      obtain ⟨j, hjl, rfl⟩ := List.getElem_of_mem hx
      have hjk : j < k := by simp at hjl; omega
      have := hj j hjk
      rw [getI_eq (by omega)] at this
      simp [this]
    rw [getI_eq hk] at h ⊢
    conv => rhs; rw [e]
    rw [List.find?_append, h1, Option.none_or, List.find?_cons_of_pos (by simpa using h)]
    rfl
  have Ha := Lib.hid ha
  have Hy := Lib.hid hy
  have Hn := Lib.hid hn
  clear ha hy hn hA
  generalize (l.find? fun x => x != 0).getD 0 = R at *
  generalize l.length = n at *
  go_enter Tryz.func143, Tryz.ntmps143
  go_wp2
  go_loop [8] (fun i => ∃ k : Nat, k ≤ n ∧ i = .int .i64 k ∧ ∀ j, j < k → getI l j = 0) (fun i => n - (intOf i).toNat)
  case atStart => exact ⟨0, by omega, rfl, fun j h => absurd h (by omega)⟩
  case round =>
    obtain ⟨k, hk, rfl, hall⟩ := hrel
    have Hall := Lib.hid hall
    clear hall
    by_cases hlt : k < n
    · obtain ⟨ad, rfl, hc⟩ := Ha.out k hlt
      have c0 := hc k hlt w (Ext.refl _)
      have Hk := Lib.hid (Hn.out k hlt Hall.out)
      clear hc Ha Hn
      have hki : (k : Int) < (n : Int) := by omega
      have hstep : getI l k = 0 → ∀ j, j < k + 1 → getI l j = 0 := fun h j hj => by
        by_cases e : j = k
        · rw [e]; exact h
        · exact Hall.out j (by omega)
      have Hst := Lib.hid hstep
      clear hstep Hall
      generalize getI l k = x at *
      by_cases h0 : x = 0
      · subst h0
        go_wp2
        go_round
        case rel => exact ⟨k + 1, by omega, by go_num, Hst.out rfl⟩
        case measure => simp [intOf]; omega
      · have h1 : (x != 0) = true := by simpa using h0
        have H0 := Lib.hid h0
        clear h0
        go_wp2
        go_ret
        exact ⟨ret_i (Hk.out H0.out), rfl⟩
    · obtain rfl : n = k := by omega
      go_wp2
      go_ret
      exact ⟨ret_i (Hy.out Hall.out), rfl⟩
theorem ordC_or (a b : Ce) : (([cmpI a.z b.z, cmpI a.y b.y, cmpI a.x b.x] : List Int).find? fun x => x != 0).getD 0 = ordC a b := by
  unfold ordC
  by_cases h1 : cmpI a.z b.z = 0
  · by_cases h2 : cmpI a.y b.y = 0
    · by_cases h3 : cmpI a.x b.x = 0 <;> simp [h1, h2, h3]
    · simp [h1, h2]
  · simp [h1]
set_option maxHeartbeats 2000000 in
/-- The order of cells. -/
theorem order_any (a b : Ce) (w : World) : Calls Tryz.prog 105 #[a.val, b.val] w fun e w' => e = .returned (.int .i64 (ordC a b)) ∧ Grown w w' := by
  have hz := fun w' => cmp_any a.z b.z w'
  have hy := fun w' => cmp_any a.y b.y w'
  have hx := fun w' => cmp_any a.x b.x w'
  have ho := fun (w' : World) (g : Nat) (h : w'.heap[g]? = some (.cells #[.int .i64 (cmpI a.z b.z), .int .i64 (cmpI a.y b.y), .int .i64 (cmpI a.x b.x)] 3)) => (show Calls Tryz.prog 143 #[.slice (some ⟨g, 0, none⟩) 3 3] w' fun e w'' => e = .returned (.int .i64 (ordC a b)) ∧ w' = w'' from by
    have h1 := or_any (some ⟨g, 0, none⟩) 3 [cmpI a.z b.z, cmpI a.y b.y, cmpI a.x b.x] w' (row_heap h) (by simp)
    rw [ordC_or] at h1
    exact h1)
  have Hz := Lib.hid hz
  have Hy := Lib.hid hy
  have Hx := Lib.hid hx
  have Ho := Lib.hid ho
  clear hz hy hx ho
  generalize ordC a b = R at *
  generalize cmpI a.z b.z = cz at *
  generalize cmpI a.y b.y = cy at *
  generalize cmpI a.x b.x = cx at *
  obtain ⟨x, y, z⟩ := a
  obtain ⟨x', y', z'⟩ := b
  simp only at Hx Hy Hz
  have hW : Grown w ((w.alloc (.cells #[.int .i64 x, .int .i64 y, .int .i64 z] 60)).alloc (.cells #[.int .i64 x', .int .i64 y', .int .i64 z'] 60)) := ((Grown.refl w).alloc _).alloc _
  have ka : Blk ((w.alloc (.cells #[.int .i64 x, .int .i64 y, .int .i64 z] 60)).alloc (.cells #[.int .i64 x', .int .i64 y', .int .i64 z'] 60)) w.heap.size [.int .i64 x, .int .i64 y, .int .i64 z] := (Blk.new _ _).ext ((Ext.refl _).alloc _)
  have kb : Blk ((w.alloc (.cells #[.int .i64 x, .int .i64 y, .int .i64 z] 60)).alloc (.cells #[.int .i64 x', .int .i64 y', .int .i64 z'] 60)) (w.heap.size + 1) [.int .i64 x', .int .i64 y', .int .i64 z'] := Blk.new' (by simp)
  have a0 := ka.at_ 0 rfl
  have a1 := ka.at_ 1 rfl
  have a2 := ka.at_ 2 rfl
  have b0 := kb.at_ 0 rfl
  have b1 := kb.at_ 1 rfl
  have b2 := kb.at_ 2 rfl
  have HW := Lib.hid hW
  clear ka kb hW
  go_enter Tryz.func105, Tryz.ntmps105
  go_wp2
  generalize ((w.alloc (.cells #[.int .i64 x, .int .i64 y, .int .i64 z] 60)).alloc (.cells #[.int .i64 x', .int .i64 y', .int .i64 z'] 60)) = W at *
  refine Cg.wp_region_calm (p := growPre) (fr := (fun _ => false)) 18 (fun j _ v _ => (j = 4 → v = .int .i64 cz) ∧ (j = 9 → v = .int .i64 cy) ∧ (j = 14 → v = .int .i64 cx) ∧ (j = 16 → v = .int .i64 R)) (fun _ _ _ _ _ _ h => h) (by kernel_rfl) (by kernel_rfl) ?_
  simp only [List.take_succ_cons, List.take_zero, List.drop_succ_cons, List.drop_zero]
  refine Cg.calm_quiet Cg.calm_mono_final W (fun _ h => Grown.ext h) 4 (by kernel_rfl) ?_
  simp only [List.take_succ_cons, List.take_zero, List.drop_succ_cons, List.drop_zero]
  repeat (go_big_quiet_step (fail))
  refine wpQuiet_nil ?_
  refine Cg.calm_call Cg.calm_mono_final 109 #[.int .i64 z, .int .i64 z'] rfl (fun w => ?_) (fun w he hF => ?_) ?_
  · go_simp
  · exact (Hz.out w).mono fun e w'' ⟨he', hx⟩ => ⟨_, he', by rw [← hx]; exact Grown.refl _, ⟨fun _ => rfl, fun h => (by cases h), fun h => (by cases h), fun h => (by cases h)⟩, fun h => by cases h⟩
  rintro _ _ _ h _
  cases h.1 rfl
  simp only [Act.put, List.setIfInBounds_toArray, List.set_cons_succ, List.set_cons_zero]
  refine Cg.calm_quiet Cg.calm_mono_final W (fun _ h => Grown.ext h) 4 (by kernel_rfl) ?_
  simp only [List.take_succ_cons, List.take_zero, List.drop_succ_cons, List.drop_zero]
  repeat (go_big_quiet_step (fail))
  refine wpQuiet_nil ?_
  refine Cg.calm_call Cg.calm_mono_final 109 #[.int .i64 y, .int .i64 y'] rfl (fun w => ?_) (fun w he hF => ?_) ?_
  · go_simp
  · exact (Hy.out w).mono fun e w'' ⟨he', hx⟩ => ⟨_, he', by rw [← hx]; exact Grown.refl _, ⟨fun h => (by cases h), fun _ => rfl, fun h => (by cases h), fun h => (by cases h)⟩, fun h => by cases h⟩
  rintro _ _ _ h _
  cases h.2.1 rfl
  simp only [Act.put, List.setIfInBounds_toArray, List.set_cons_succ, List.set_cons_zero]
  refine Cg.calm_quiet Cg.calm_mono_final W (fun _ h => Grown.ext h) 4 (by kernel_rfl) ?_
  simp only [List.take_succ_cons, List.take_zero, List.drop_succ_cons, List.drop_zero]
  repeat (go_big_quiet_step (fail))
  refine wpQuiet_nil ?_
  refine Cg.calm_call Cg.calm_mono_final 109 #[.int .i64 x, .int .i64 x'] rfl (fun w => ?_) (fun w he hF => ?_) ?_
  · go_simp
  · exact (Hx.out w).mono fun e w'' ⟨he', hx⟩ => ⟨_, he', by rw [← hx]; exact Grown.refl _, ⟨fun h => (by cases h), fun h => (by cases h), fun _ => rfl, fun h => (by cases h)⟩, fun h => by cases h⟩
  rintro _ _ _ h _
  cases h.2.2.1 rfl
  simp only [Act.put, List.setIfInBounds_toArray, List.set_cons_succ, List.set_cons_zero]
  refine Cg.calm_value Cg.calm_mono_final (fun v w => ∃ b, v = .slice (some ⟨b, 0, none⟩) 3 3 ∧ w.heap[b]? = some (.cells #[.int .i64 cz, .int .i64 cy, .int .i64 cx] 3)) (fun _ w' w'' hR ⟨b, e, hh⟩ => ⟨b, e, (Grown.ext hR).heap hh⟩) rfl (fun w' hR _ => ⟨.slice (some ⟨w'.heap.size, 0, none⟩) 3 3, w'.alloc (.cells #[.int .i64 cz, .int .i64 cy, .int .i64 cx] 3), by go_simp, (Grown.refl _).alloc _, ⟨_, rfl, heap_alloc_new _ _⟩, fun hf => by cases hf⟩) ?_
  rintro _ _ _ ⟨g, rfl, _⟩ _
  simp only [Act.put, List.setIfInBounds_toArray, List.set_cons_succ, List.set_cons_zero]
  refine Cg.calm_call Cg.calm_mono_final 143 #[.slice (some ⟨g, 0, none⟩) 3 3] rfl (fun w => ?_) (fun w he hF => ?_) ?_
  · go_simp
  · obtain ⟨g', e1, hh⟩ := (hF 15 (by kernel_rfl)).2 rfl
    simp only [Value.slice.injEq, Option.some.injEq, Addr.mk.injEq, and_true] at e1
    subst e1
    exact (Ho.out w g hh).mono fun e w'' ⟨he', hx⟩ => ⟨_, he', by rw [← hx]; exact Grown.refl _, ⟨fun h => (by cases h), fun h => (by cases h), fun h => (by cases h), fun _ => rfl⟩, fun h => by cases h⟩
  rintro _ _ _ h _
  cases h.2.2.2 rfl
  simp only [Act.put, List.setIfInBounds_toArray, List.set_cons_succ, List.set_cons_zero]
  refine Cg.calm_quiet Cg.calm_mono_final W (fun _ h => Grown.ext h) 1 (by kernel_rfl) ?_
  simp only [List.take_succ_cons, List.take_zero, List.drop_succ_cons, List.drop_zero]
  repeat (go_big_quiet_step (fail))
  refine wpQuiet_nil ?_
  refine Cg.calm_nil fun w3 he3 _ => ?_
  have he3 : Grown W w3 := he3
  have H3 := Lib.hid he3
  clear he3 a0 a1 a2 b0 b1 b2
  go_wp2
  go_ret
  exact ⟨rfl, HW.out.trans H3.out⟩
end Go.Proofs.YtebkhdhhajjhfaaGreat.Lt

/- Cells in a list; steps and directions. -/
namespace Go.Proofs.YtebkhdhhajjhfaaGreat
namespace Cg
theorem calm_skip {p : Pre} {P : Program} {ops : Array Oper} {S : Spec} {fr : Nat → Bool} {w0 : World} {Q : Act → Gx → Prop} {o : Oper} {l : List Oper} {k : Nat} {a : Act} {F : Gx} (hw : Region.wanted o (yielded ops a.tmps) = false)
    (hn : wpCalm p P ops S fr w0 Q l (k + 1) (a.put o.dst undef) F) : wpCalm p P ops S fr w0 Q (o :: l) k a F :=
  ⟨fun h => by (rw [hw] at h; cases h), fun h => by (rw [hw] at h; cases h), fun _ => hn⟩
end Cg
namespace Lt
open Go.RowKit
theorem eq_cells (x0 x1 x2 y0 y1 y2 : Int) (w : World) : (binOp .eql 60 (.agg #[.int .i64 x0, .int .i64 x1, .int .i64 x2]) (.agg #[.int .i64 y0, .int .i64 y1, .int .i64 y2])).run Tryz.prog w = .ok (.bool (decide (x0 = y0 ∧ x1 = y1 ∧ x2 = y2))) w := by
  simp [go_sem]
  repeat' split
  all_goals simp [*]
/-- Where a cell is first in a list; -1: it is not. -/
def idxC (l : List Ce) (c : Ce) : Int := if c ∈ l then (l.findIdx (fun x => decide (x = c)) : Nat) else -1
theorem idxC_at {l : List Ce} {c : Ce} {k : Nat} (hk : k < l.length) (hj : ∀ j, j < k → ceA l j ≠ c) (h : ceA l k = c) : (k : Int) = idxC l c := by
  have hm : c ∈ l := by rw [← h, ceA_at hk]; exact List.getElem_mem hk
  unfold idxC
  rw [if_pos hm, (List.findIdx_eq hk).2 ⟨by rw [← ceA_at hk]; simp [h], fun j hj' => by rw [← ceA_at (by omega)]; simp [hj j hj']⟩]
theorem idxC_no {l : List Ce} {c : Ce} (h : ∀ j, j < l.length → ceA l j ≠ c) : (-1 : Int) = idxC l c := by
  unfold idxC
  rw [if_neg]
  intro hm
  obtain ⟨j, hj, e⟩ := List.getElem_of_mem hm
  exact h j hj (by rw [ceA_at hj]; exact e)
theorem idxC_ge {l : List Ce} {c : Ce} : decide (0 ≤ idxC l c) = decide (c ∈ l) := by
  unfold idxC
  by_cases h : c ∈ l
  · simp [h]
  · simp [h]
set_option maxRecDepth 100000 in
set_option maxHeartbeats 1000000 in
theorem index_cells (l : List Ce) (A : Option Addr) (b : Nat) (c : Ce) (w : World) (hA : CeRow w A l) (hl : l.length ≤ 1000) : Calls Tryz.prog 176 #[.slice A l.length b, c.val] w fun e w' => e = .returned (.int .i64 (idxC l c)) ∧ Ext w w' := by
  have hat := fun j (hj : j < l.length) => hA.at_ hj
  have hy := fun k (hk : k < l.length) (hj : ∀ j, j < k → ceA l j ≠ c) (h : ceA l k = c) => idxC_at hk hj h
  have hn := fun (h : ∀ j, j < l.length → ceA l j ≠ c) => idxC_no h
  have Hat := Lib.hid hat
  have Hy := Lib.hid hy
  have Hn := Lib.hid hn
  clear hat hy hn hA
  generalize idxC l c = R at *
  generalize l.length = n at *
  have hEq := fun x => (show ceA l x = c ∨ ceA l x ≠ c from Classical.em _)
  have HEq := Lib.hid hEq
  clear hEq
  obtain ⟨c0, c1, c2⟩ := c
  have kb : Blk (w.alloc (.cells #[.int .i64 c0, .int .i64 c1, .int .i64 c2] 60)) w.heap.size [.int .i64 c0, .int .i64 c1, .int .i64 c2] := Blk.new _ _
  have hx0 : Ext w (w.alloc (.cells #[.int .i64 c0, .int .i64 c1, .int .i64 c2] 60)) := (Ext.refl _).alloc _
  have z0 := kb.at_ 0 rfl
  have z1 := kb.at_ 1 rfl
  have z2 := kb.at_ 2 rfl
  have Hx0 := Lib.hid hx0
  clear kb hx0
  go_enter Tryz.func176, Tryz.ntmps176
  go_wp2
  generalize (w.alloc (.cells #[.int .i64 c0, .int .i64 c1, .int .i64 c2] 60)) = W at *
  go_loopw [8] (fun i wr => ∃ k : Nat, k ≤ n ∧ i = .int .i64 k ∧ Ext W wr ∧ ∀ j, j < k → ceA l j ≠ ⟨c0, c1, c2⟩) (fun i _ => n - (intOf i).toNat)
  case atStart => exact ⟨0, by omega, rfl, Ext.refl _, fun j h => absurd h (by omega)⟩
  case round =>
    obtain ⟨k, hk, rfl, hex, hall⟩ := hrel
    have Hall := Lib.hid hall
    clear hall
    by_cases hlt : k < n
    · have hki : (k : Int) < (n : Int) := by omega
      obtain ⟨ad, rfl, x0, x1, x2⟩ := Hat.out k hlt
      have hxw := Hx0.out.trans hex
      have u0 := fun w' he => x0 w' (hxw.trans he)
      have u1 := fun w' he => x1 w' (hxw.trans he)
      have u2 := fun w' he => x2 w' (hxw.trans he)
      have y0 := fun w' he => z0 w' (hex.trans he)
      have y1 := fun w' he => z1 w' (hex.trans he)
      have y2 := fun w' he => z2 w' (hex.trans he)
      have Hex := Lib.hid hex
      have Hk := Lib.hid (Hy.out k hlt Hall.out)
      have hst : ceA l k ≠ ⟨c0, c1, c2⟩ → ∀ j, j < k + 1 → ceA l j ≠ ⟨c0, c1, c2⟩ := fun h j hj => by
        rcases (by omega : j < k ∨ j = k) with h' | rfl
        · exact Hall.out j h'
        · exact h
      have Hst := Lib.hid hst
      clear x0 x1 x2 hxw hex hst Hall Hat Hy Hn HEq z0 z1 z2
      obtain ⟨⟨q0, q1, q2⟩, hq⟩ : ∃ q, ceA l k = q := ⟨_, rfl⟩
      rw [hq] at u0 u1 u2 Hk Hst
      clear hq
      simp only at u0 u1 u2
      have hne := eq_cells c0 c1 c2 q0 q1 q2
      by_cases he : c0 = q0 ∧ c1 = q1 ∧ c2 = q2
      · rw [decide_eq_true he] at hne
        obtain ⟨e0, e1, e2⟩ := he
        have HR := Lib.hid (Hk.out (by rw [e0, e1, e2]))
        clear e0 e1 e2 Hk Hst
        go_wp2
        refine Cg.wp_region_calm (p := Cg.extPre) (fr := (fun _ => false)) 6 (fun _ _ _ _ => True) (fun _ _ _ _ _ _ h => h) (by kernel_rfl) (by kernel_rfl) ?_
        simp only [List.take_succ_cons, List.take_zero, List.drop_succ_cons, List.drop_zero]
        refine Cg.calm_quiet Cg.calm_mono_final wr (fun _ h => h) 6 (by kernel_rfl) ?_
        simp only [List.take_succ_cons, List.take_zero, List.drop_succ_cons, List.drop_zero]
        repeat (go_big_quiet_step (fail))
        refine wpQuiet_nil ?_
        refine Cg.calm_nil fun w3 he3 _ => ?_
        have he3 : Ext wr w3 := he3
        have H3 := Lib.hid (Hx0.out.trans (Hex.out.trans he3))
        clear he3 u0 u1 u2 y0 y1 y2 hne
        go_wp2
        go_ret
        exact ⟨ret_i HR.out, H3.out⟩
      · rw [decide_eq_false he] at hne
        have HR := Lib.hid (Hst.out (fun e => he (by simp only [Ce.mk.injEq] at e; omega)))
        clear he Hk Hst
        go_wp2
        refine Cg.wp_region_calm (p := Cg.extPre) (fr := (fun _ => false)) 6 (fun _ _ _ _ => True) (fun _ _ _ _ _ _ h => h) (by kernel_rfl) (by kernel_rfl) ?_
        simp only [List.take_succ_cons, List.take_zero, List.drop_succ_cons, List.drop_zero]
        refine Cg.calm_quiet Cg.calm_mono_final wr (fun _ h => h) 6 (by kernel_rfl) ?_
        simp only [List.take_succ_cons, List.take_zero, List.drop_succ_cons, List.drop_zero]
        repeat (go_big_quiet_step (fail))
        refine wpQuiet_nil ?_
        refine Cg.calm_nil fun w3 he3 _ => ?_
        have he3 : Ext wr w3 := he3
        have H3 := Lib.hid (Hex.out.trans he3)
        clear he3 u0 u1 u2 y0 y1 y2 hne
        go_wp2
        go_roundw
        case rel => exact ⟨k + 1, by omega, by go_num, H3.out, HR.out⟩
        case measure => simp [intOf]; omega
    · obtain rfl : n = k := by omega
      go_wp2
      go_ret
      exact ⟨ret_i (Hn.out Hall.out), Hx0.out.trans hex⟩
theorem contains_cells (l : List Ce) (A : Option Addr) (b : Nat) (c : Ce) (w : World) (hA : CeRow w A l) (hl : l.length ≤ 1000) : Calls Tryz.prog 145 #[.slice A l.length b, c.val] w fun e w' => e = .returned (.bool (decide (c ∈ l))) ∧ Ext w w' := by
  have hi := fun w' (he : Ext w w') => index_cells l A b c w' (hA.ext he) hl
  have hge := idxC_ge (l := l) (c := c)
  rw [← hge]
  have Hi := Lib.hid hi
  clear hi hA hl hge
  generalize idxC l c = R at *
  generalize l.length = n at *
  obtain ⟨c0, c1, c2⟩ := c
  have kb : Blk (w.alloc (.cells #[.int .i64 c0, .int .i64 c1, .int .i64 c2] 60)) w.heap.size [.int .i64 c0, .int .i64 c1, .int .i64 c2] := Blk.new _ _
  have hx0 : Ext w (w.alloc (.cells #[.int .i64 c0, .int .i64 c1, .int .i64 c2] 60)) := (Ext.refl _).alloc _
  have z0 := kb.at_ 0 rfl
  have z1 := kb.at_ 1 rfl
  have z2 := kb.at_ 2 rfl
  have Hx0 := Lib.hid hx0
  clear kb hx0
  go_enter Tryz.func145, Tryz.ntmps145
  go_wp2_with (go_at_call 176; refine (Hi.out _ Hx0.out).mono ?_; rintro e w1 ⟨rfl, hx1⟩; have H1 := Lib.hid (Hx0.out.trans hx1); clear z0 z1 z2 hx1)
  go_ret
  exact ⟨rfl, H1.out⟩
end Lt
end Go.Proofs.YtebkhdhhajjhfaaGreat

/- Steps, directions. -/
namespace Go.Proofs.YtebkhdhhajjhfaaGreat.Lt
open Go.RowKit
/-- The step along a direction. -/
def stepC : Nat → Ce
  | 0 => ⟨1, 0, 0⟩
  | 1 => ⟨-1, 0, 0⟩
  | 2 => ⟨0, 1, 0⟩
  | 3 => ⟨0, -1, 0⟩
  | 4 => ⟨0, 0, 1⟩
  | _ => ⟨0, 0, -1⟩
theorem six_cases {d : Nat} (h : d < 6) : d = 0 ∨ d = 1 ∨ d = 2 ∨ d = 3 ∨ d = 4 ∨ d = 5 := by omega
theorem idx3 (n : Int) (w : World) :
    (Instr.index 256 (.agg #[.int .i64 n, .int .i64 0, .int .i64 0, .int .i64 0, .int .i64 n, .int .i64 0, .int .i64 0, .int .i64 0, .int .i64 n]) (.int .i64 0)).run Tryz.prog w = .ok (.agg #[.int .i64 n, .int .i64 0, .int .i64 0]) w ∧
    (Instr.index 256 (.agg #[.int .i64 n, .int .i64 0, .int .i64 0, .int .i64 0, .int .i64 n, .int .i64 0, .int .i64 0, .int .i64 0, .int .i64 n]) (.int .i64 1)).run Tryz.prog w = .ok (.agg #[.int .i64 0, .int .i64 n, .int .i64 0]) w ∧
    (Instr.index 256 (.agg #[.int .i64 n, .int .i64 0, .int .i64 0, .int .i64 0, .int .i64 n, .int .i64 0, .int .i64 0, .int .i64 0, .int .i64 n]) (.int .i64 2)).run Tryz.prog w = .ok (.agg #[.int .i64 0, .int .i64 0, .int .i64 n]) w :=
  ⟨by kernel_rfl, by kernel_rfl, by kernel_rfl⟩
/-- .. and the one back. -/
def backC (d : Nat) : Ce := ⟨-(stepC d).x, -(stepC d).y, -(stepC d).z⟩
set_option maxRecDepth 100000 in
set_option maxHeartbeats 1000000 in
theorem step_any (d : Nat) (hd : d < 6) (w : World) : Calls Tryz.prog 140 #[.int .i64 d] w fun e w' => e = .returned (stepC d).val ∧ Ext w w' := by
  have i1 := fun w' => (idx3 1 w').1
  have i2 := fun w' => (idx3 1 w').2.1
  have i3 := fun w' => (idx3 1 w').2.2
  have j1 := fun w' => (idx3 (-1) w').1
  have j2 := fun w' => (idx3 (-1) w').2.1
  have j3 := fun w' => (idx3 (-1) w').2.2
  rcases six_cases hd with rfl | rfl | rfl | rfl | rfl | rfl
  all_goals
    clear hd
    go_enter Tryz.func140, Tryz.ntmps140
    go_wp2
    refine bodyPost_ret (results_ce rfl _ _ rfl (Blk.new _ _)) rfl ?_
    exact ⟨rfl, (Ext.refl _).alloc _⟩
set_option maxRecDepth 100000 in
set_option maxHeartbeats 1000000 in
theorem back_any (d : Nat) (hd : d < 6) (w : World) : Calls Tryz.prog 99 #[.int .i64 d] w fun e w' => e = .returned (backC d).val ∧ Ext w w' := by
  have i1 := fun w' => (idx3 1 w').1
  have i2 := fun w' => (idx3 1 w').2.1
  have i3 := fun w' => (idx3 1 w').2.2
  have j1 := fun w' => (idx3 (-1) w').1
  have j2 := fun w' => (idx3 (-1) w').2.1
  have j3 := fun w' => (idx3 (-1) w').2.2
  rcases six_cases hd with rfl | rfl | rfl | rfl | rfl | rfl
  all_goals
    clear hd
    go_enter Tryz.func99, Tryz.ntmps99
    go_wp2
    refine bodyPost_ret (results_ce rfl _ _ rfl (Blk.new _ _)) rfl ?_
    exact ⟨rfl, (Ext.refl _).alloc _⟩
set_option maxRecDepth 100000 in
set_option maxHeartbeats 1000000 in
theorem stepr_any (d : Nat) (hd : d < 6) (w : World) : Calls Tryz.prog 34 #[.int .i64 d] w fun e w' => e = .returned (stepC d).val ∧ Ext w w' := by
  have kb : Blk ((w.alloc (.cells #[.int .i64 0, .int .i64 0, .int .i64 0] 60)).alloc (.cells #[.int .i64 1, .int .i64 0, .int .i64 0, .int .i64 (-1), .int .i64 0, .int .i64 0, .int .i64 0, .int .i64 1, .int .i64 0, .int .i64 0, .int .i64 (-1), .int .i64 0, .int .i64 0, .int .i64 0, .int .i64 1, .int .i64 0, .int .i64 0, .int .i64 (-1)] 60)) (w.heap.size + 1) [.int .i64 1, .int .i64 0, .int .i64 0, .int .i64 (-1), .int .i64 0, .int .i64 0, .int .i64 0, .int .i64 1, .int .i64 0, .int .i64 0, .int .i64 (-1), .int .i64 0, .int .i64 0, .int .i64 0, .int .i64 1, .int .i64 0, .int .i64 0, .int .i64 (-1)] := Blk.new' (by simp)
  have hx : Ext w ((w.alloc (.cells #[.int .i64 0, .int .i64 0, .int .i64 0] 60)).alloc (.cells #[.int .i64 1, .int .i64 0, .int .i64 0, .int .i64 (-1), .int .i64 0, .int .i64 0, .int .i64 0, .int .i64 1, .int .i64 0, .int .i64 0, .int .i64 (-1), .int .i64 0, .int .i64 0, .int .i64 0, .int .i64 1, .int .i64 0, .int .i64 0, .int .i64 (-1)] 60)) := ((Ext.refl _).alloc _).alloc _
  have kz : Blk ((w.alloc (.cells #[.int .i64 0, .int .i64 0, .int .i64 0] 60)).alloc (.cells #[.int .i64 1, .int .i64 0, .int .i64 0, .int .i64 (-1), .int .i64 0, .int .i64 0, .int .i64 0, .int .i64 1, .int .i64 0, .int .i64 0, .int .i64 (-1), .int .i64 0, .int .i64 0, .int .i64 0, .int .i64 1, .int .i64 0, .int .i64 0, .int .i64 (-1)] 60)) w.heap.size [.int .i64 0, .int .i64 0, .int .i64 0] := (Blk.new _ _).ext ((Ext.refl _).alloc _)
  have hc : ∀ j, j < 3 → ((w.alloc (.cells #[.int .i64 0, .int .i64 0, .int .i64 0] 60)).alloc (.cells #[.int .i64 1, .int .i64 0, .int .i64 0, .int .i64 (-1), .int .i64 0, .int .i64 0, .int .i64 0, .int .i64 1, .int .i64 0, .int .i64 0, .int .i64 (-1), .int .i64 0, .int .i64 0, .int .i64 0, .int .i64 1, .int .i64 0, .int .i64 0, .int .i64 (-1)] 60)).cell? ⟨w.heap.size + 1, d * 3 + j, none⟩ = some ((stepC d).cells.getD j undef) := fun j hj => by
    refine kb.c _ _ ?_
    rcases six_cases hd with rfl | rfl | rfl | rfl | rfl | rfl <;> rcases (by omega : j = 0 ∨ j = 1 ∨ j = 2) with rfl | rfl | rfl <;> rfl
  have c0 := hc 0 (by omega)
  have c1 := hc 1 (by omega)
  have c2 := hc 2 (by omega)
  have hd6 : (d : Int) < 6 := by omega
  clear hc hd kb
  obtain ⟨⟨sx, sy, sz⟩, hs⟩ : ∃ s, stepC d = s := ⟨_, rfl⟩
  rw [hs] at c0 c1 c2 ⊢
  clear hs
  simp only [Ce.cells, List.getD_cons_zero, List.getD_cons_succ, Nat.add_zero] at c0 c1 c2
  have z0 := kz.c 0 _ rfl
  have z1 := kz.c 1 _ rfl
  have z2 := kz.c 2 _ rfl
  have f0 := kz.f 0
  have f1 := kz.f 1
  have f2 := kz.f 2
  clear kz hx
  go_enter Tryz.func34, Tryz.ntmps34
  go_wp2
  refine bodyPost_ret (results_ce rfl _ _ rfl ((Blk.new _ _).ext ((Ext.refl _).alloc _))) rfl ?_
  exact ⟨rfl, ((Ext.refl _).alloc _).alloc _⟩
end Go.Proofs.YtebkhdhhajjhfaaGreat.Lt

/- Directions of steps. -/
namespace Go.Proofs.YtebkhdhhajjhfaaGreat.Lt
open Go.RowKit
theorem stepC_inj : ∀ i : Nat, i < 6 → ∀ j : Nat, j < 6 → stepC i = stepC j → i = j := by decide
theorem stepC_near (d : Nat) : nearP (stepC d) (-1) 1 := by
  unfold stepC
  split <;> (unfold nearP; simp only; omega)
set_option maxRecDepth 100000 in
set_option maxHeartbeats 1000000 in
theorem direction_any (j : Nat) (hj : j < 6) (w : World) : Calls Tryz.prog 139 #[(stepC j).val] w fun e w' => e = .returned (.int .i64 j) ∧ Ext w w' := by
  have hs := fun k (hk : k < 6) w' => step_any k hk w'
  have hi := fun k (hk : k < 6) => stepC_inj k hk j hj
  have Hs := Lib.hid hs
  have Hi := Lib.hid hi
  clear hs hi
  obtain ⟨⟨c0, c1, c2⟩, hc⟩ : ∃ c, stepC j = c := ⟨_, rfl⟩
  have Hc := Lib.hid hc
  rw [hc] at Hi ⊢
  clear hc
  have kb : Blk (w.alloc (.cells #[.int .i64 c0, .int .i64 c1, .int .i64 c2] 60)) w.heap.size [.int .i64 c0, .int .i64 c1, .int .i64 c2] := Blk.new _ _
  have hx0 : Ext w (w.alloc (.cells #[.int .i64 c0, .int .i64 c1, .int .i64 c2] 60)) := (Ext.refl _).alloc _
  have z0 := kb.at_ 0 rfl
  have z1 := kb.at_ 1 rfl
  have z2 := kb.at_ 2 rfl
  have Hx0 := Lib.hid hx0
  clear kb hx0
  go_enter Tryz.func139, Tryz.ntmps139
  go_wp2
  generalize (w.alloc (.cells #[.int .i64 c0, .int .i64 c1, .int .i64 c2] 60)) = W at *
  go_loopw [4] (fun i wr => ∃ k : Nat, k ≤ j ∧ i = .int .i64 k ∧ Ext W wr) (fun i _ => 6 - (intOf i).toNat)
  case atStart => exact ⟨0, by omega, rfl, Ext.refl _⟩
  case round =>
    obtain ⟨k, hk, rfl, hex⟩ := hrel
    have hki : (k : Int) < 6 := by omega
    have hk6 : k < 6 := by omega
    have hsk := fun w' => Hs.out k hk6 w'
    have y0 := fun w' he => z0 w' (hex.trans he)
    have y1 := fun w' he => z1 w' (hex.trans he)
    have y2 := fun w' he => z2 w' (hex.trans he)
    have Hex := Lib.hid hex
    have hw1 : IntKind.i64.wrap ((k : Int) + 1) = ((k + 1 : Nat) : Int) := by rw [IntKind.wrap_i64]; omega
    clear hex z0 z1 z2 Hs
    by_cases he : k = j
    · rw [he, Hc.out] at hsk
      have Hsk := Lib.hid hsk
      have hne := eq_cells c0 c1 c2 c0 c1 c2
      rw [decide_eq_true (show c0 = c0 ∧ c1 = c1 ∧ c2 = c2 from ⟨rfl, rfl, rfl⟩)] at hne
      clear hsk Hi Hc
      subst he
      go_wp2
      refine Cg.wp_region_calm (p := Cg.extPre) (fr := (fun _ => false)) 4 (fun j _ v _ => (j = 1 → v = .agg #[.int .i64 c0, .int .i64 c1, .int .i64 c2])) (fun _ _ _ _ _ _ h => h) (by kernel_rfl) (by kernel_rfl) ?_
      simp only [List.take_succ_cons, List.take_zero, List.drop_succ_cons, List.drop_zero]
      refine Cg.calm_quiet Cg.calm_mono_final wr (fun _ h => h) 1 (by kernel_rfl) ?_
      simp only [List.take_succ_cons, List.take_zero, List.drop_succ_cons, List.drop_zero]
      repeat (go_big_quiet_step (fail))
      refine wpQuiet_nil ?_
      refine Cg.calm_call Cg.calm_mono_final 140 #[.int .i64 k] rfl (fun w => ?_) (fun w he hF => ?_) ?_
      · go_simp
      · exact (Hsk.out w).mono fun e w'' ⟨he', hx⟩ => ⟨_, he', hx, fun _ => rfl, fun h => by cases h⟩
      rintro _ _ _ h _
      cases h rfl
      simp only [Act.put, List.setIfInBounds_toArray, List.set_cons_succ, List.set_cons_zero]
      refine Cg.calm_quiet Cg.calm_mono_final wr (fun _ h => h) 2 (by kernel_rfl) ?_
      simp only [List.take_succ_cons, List.take_zero, List.drop_succ_cons, List.drop_zero]
      repeat (go_big_quiet_step (fail))
      refine wpQuiet_nil ?_
      refine Cg.calm_nil fun w3 he3 _ => ?_
      have he3 : Ext wr w3 := he3
      have H3 := Lib.hid (Hx0.out.trans (Hex.out.trans he3))
      clear he3 y0 y1 y2 hne
      go_wp2
      go_ret
      exact ⟨rfl, H3.out⟩
    · have hns : stepC k ≠ ⟨c0, c1, c2⟩ := fun e => he (Hi.out k hk6 e)
      obtain ⟨⟨q0, q1, q2⟩, hq⟩ : ∃ q, stepC k = q := ⟨_, rfl⟩
      rw [hq] at hsk hns
      have Hsk := Lib.hid hsk
      have hne := eq_cells q0 q1 q2 c0 c1 c2
      rw [decide_eq_false (show ¬ (q0 = c0 ∧ q1 = c1 ∧ q2 = c2) from fun e => hns (by rw [e.1, e.2.1, e.2.2]))] at hne
      clear hsk Hi Hc hns hq
      go_wp2
      refine Cg.wp_region_calm (p := Cg.extPre) (fr := (fun _ => false)) 4 (fun j _ v _ => (j = 1 → v = .agg #[.int .i64 q0, .int .i64 q1, .int .i64 q2])) (fun _ _ _ _ _ _ h => h) (by kernel_rfl) (by kernel_rfl) ?_
      simp only [List.take_succ_cons, List.take_zero, List.drop_succ_cons, List.drop_zero]
      refine Cg.calm_quiet Cg.calm_mono_final wr (fun _ h => h) 1 (by kernel_rfl) ?_
      simp only [List.take_succ_cons, List.take_zero, List.drop_succ_cons, List.drop_zero]
      repeat (go_big_quiet_step (fail))
      refine wpQuiet_nil ?_
      refine Cg.calm_call Cg.calm_mono_final 140 #[.int .i64 k] rfl (fun w => ?_) (fun w he hF => ?_) ?_
      · go_simp
      · exact (Hsk.out w).mono fun e w'' ⟨he', hx⟩ => ⟨_, he', hx, fun _ => rfl, fun h => by cases h⟩
      rintro _ _ _ h _
      cases h rfl
      simp only [Act.put, List.setIfInBounds_toArray, List.set_cons_succ, List.set_cons_zero]
      refine Cg.calm_quiet Cg.calm_mono_final wr (fun _ h => h) 2 (by kernel_rfl) ?_
      simp only [List.take_succ_cons, List.take_zero, List.drop_succ_cons, List.drop_zero]
      repeat (go_big_quiet_step (fail))
      refine wpQuiet_nil ?_
      refine Cg.calm_nil fun w3 he3 _ => ?_
      have he3 : Ext wr w3 := he3
      have H3 := Lib.hid (Hex.out.trans he3)
      clear he3 y0 y1 y2 hne
      go_wp2
      go_roundw
      case rel => exact ⟨k + 1, by omega, by go_num, H3.out⟩
      case measure => simp [intOf]; omega
end Go.Proofs.YtebkhdhhajjhfaaGreat.Lt
