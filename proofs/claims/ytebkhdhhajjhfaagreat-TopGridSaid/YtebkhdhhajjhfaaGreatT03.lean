/- Trains, first text: meshes; which are valid, by the code. -/
import Derived.Test.YtebkhdhhajjhfaaGreatT02
import Derived.Test.YtebkhdhhajjhfaaGreatT01
namespace Go.Proofs.YtebkhdhhajjhfaaGreat.Gr
open Go.RowKit

structure Msh where
  kind : Int
  a : Int
  b : Int
  c : Int
  n : Int
  m : Int
  deriving DecidableEq
def Msh.cells (x : Msh) : List Value := [.int .u8 x.kind, vint x.a, vint x.b, vint x.c, vint x.n, vint x.m]
def Msh.val (x : Msh) : Value := .agg #[.int .u8 x.kind, vint x.a, vint x.b, vint x.c, vint x.n, vint x.m]

/-- The number of shafts that a kind names (0: no kind), and whether it has teeth. -/
def nsS (k : Int) : Nat := if k = 1 ∨ k = 2 ∨ k = 3 ∨ k = 7 then 2 else if k = 4 then 1 else if k = 5 ∨ k = 6 then 3 else 0
def teethS (k : Int) : Bool := decide (k = 1 ∨ k = 2 ∨ k = 6)

def inR (s cnt : Int) : Prop := 0 ≤ s ∧ s < cnt
instance (s cnt : Int) : Decidable (inR s cnt) := by unfold inR; infer_instance
def validP (x : Msh) (cnt : Int) : Prop :=
  nsS x.kind ≠ 0 ∧ inR x.a cnt ∧ (if 1 < nsS x.kind then inR x.b cnt ∧ x.b ≠ x.a else x.b = 0) ∧ (if 2 < nsS x.kind then inR x.c cnt ∧ x.c ≠ x.a ∧ x.c ≠ x.b else x.c = 0) ∧
    (if teethS x.kind = true then (1 ≤ x.n ∧ x.n ≤ 24) ∧ (1 ≤ x.m ∧ x.m ≤ 24) else x.n = 0 ∧ x.m = 0)
instance (x : Msh) (cnt : Int) : Decidable (validP x cnt) := by unfold validP; infer_instance
def validB (x : Msh) (cnt : Int) : Bool := decide (validP x cnt)
theorem validB_eq {x : Msh} {cnt : Int} {b : Bool} (h : b = true ↔ validP x cnt) : b = validB x cnt := by
  cases b <;> simp [validB] at h ⊢ <;> exact h

theorem ret_ib {a b : Int} {s t : Bool} (h1 : a = b) (h2 : s = t) : Ending.returned (.tuple #[.int .i64 a, .bool s]) = .returned (.tuple #[.int .i64 b, .bool t]) := by rw [h1, h2]

set_option maxHeartbeats 400000 in
theorem shafts_any (k : Int) (w : World) : Calls Tryz.prog 162 #[.int .u8 k] w fun e w' => e = .returned (.tuple #[.int .i64 (nsS k : Nat), .bool (teethS k)]) ∧ w = w' := by
  by_cases h : k = 1 ∨ k = 2 ∨ k = 3 ∨ k = 4 ∨ k = 5 ∨ k = 6 ∨ k = 7
  · rcases h with rfl | rfl | rfl | rfl | rfl | rfl | rfl
    all_goals
      go_enter Tryz.func162, Tryz.ntmps162
      go_wp2
      go_ret2
      exact ⟨ret_ib (by decide) (by decide), rfl⟩
  · have h1 : (k == 1) = false := beq_eq_false_iff_ne.2 (by omega)
    have h2 : (k == 2) = false := beq_eq_false_iff_ne.2 (by omega)
    have h3 : (k == 3) = false := beq_eq_false_iff_ne.2 (by omega)
    have h4 : (k == 4) = false := beq_eq_false_iff_ne.2 (by omega)
    have h5 : (k == 5) = false := beq_eq_false_iff_ne.2 (by omega)
    have h6 : (k == 6) = false := beq_eq_false_iff_ne.2 (by omega)
    have h7 : (k == 7) = false := beq_eq_false_iff_ne.2 (by omega)
    have e1 : (0 : Int) = (nsS k : Nat) := by
      unfold nsS
      rw [if_neg (by omega), if_neg (by omega), if_neg (by omega)]; rfl
    have e2 : false = teethS k := (decide_eq_false (by omega)).symm
    have E1 := Lib.hid e1
    have E2 := Lib.hid e2
    clear e1 e2 h
    go_enter Tryz.func162, Tryz.ntmps162
    go_wp2
    go_ret2
    exact ⟨ret_ib E1.out E2.out, rfl⟩

def memB (xs : List Int) (s : Int) : Bool := decide (s ∈ xs)
def HasAt (xs : List Int) (s : Int) (w : World) (e : Ending) (w' : World) : Prop := ∃ r : Int, e = .returned (.int .i64 r) ∧ (0 ≤ r ↔ s ∈ xs) ∧ w = w'

set_option maxHeartbeats 400000 in
theorem index_any (A : Option Addr) (c : Nat) (xs : List Int) (s : Int) (w : World) (hA : Ints w A xs) (hx : xs.length ≤ 1000000) :
    Calls Tryz.prog 126 #[.slice A xs.length c, .int .i64 s] w (HasAt xs s w) := by
  have ca := fun (k : Nat) (hk : k < xs.length) => hA.some_ (by omega)
  have hin : ∀ k, k < xs.length → getI xs k = s → s ∈ xs := fun k hk h => by rw [← h, getI_eq hk]; exact List.getElem_mem hk
  have hout : (∀ k, k < xs.length → getI xs k ≠ s) → ¬ s ∈ xs := fun h hm => by
    obtain ⟨k, hk, e⟩ := List.getElem_of_mem hm
    exact h k hk (by rw [getI_eq hk]; exact e)
  have Ca := Lib.hid ca
  have Hin := Lib.hid hin
  have Hout := Lib.hid hout
  clear ca hin hout hA
  generalize xs.length = n at *
  go_enter Tryz.func126, Tryz.ntmps126
  go_wp2
  go_loop [8, 5] (fun i _ => ∃ k : Nat, k ≤ n ∧ i = .int .i64 k ∧ ∀ j, j < k → getI xs j ≠ s) (fun i _ => n - (intOf i).toNat)
  case atStart => exact ⟨0, by omega, rfl, fun j hj => by omega⟩
  case round =>
    obtain ⟨k, hk, rfl, hall⟩ := hrel
    have Hall := Lib.hid hall
    clear hall
    by_cases hlt : k < n
    · obtain ⟨ad, rfl, hc⟩ := Ca.out k hlt
      have hck := hc k hlt w (Ext.refl w)
      clear hc
      by_cases he : getI xs k = s
      · have hb : (s == getI xs k) = true := by rw [he]; exact beq_self_eq_true s
        have Hm := Lib.hid (Hin.out k hlt he)
        have hne : (getI xs k == s) = true := by rw [he]; exact beq_self_eq_true s
        clear he
        go_wp2
        go_ret
        exact ⟨k, rfl, ⟨fun _ => Hm.out, fun _ => by omega⟩, rfl⟩
      · have hb : (s == getI xs k) = false := beq_eq_false_iff_ne.2 (fun e => he e.symm)
        have He := Lib.hid he
        clear he
        go_wp2
        go_round
        case rel => exact ⟨k + 1, by omega, by go_num, fun j hj => by
          by_cases e : j = k
          · subst e; exact He.out
          · exact Hall.out j (by omega)⟩
        case measure => simp [intOf]; omega
    · go_wp2
      go_ret
      exact ⟨-1, rfl, ⟨fun h => by omega, fun h => absurd h (Hout.out fun j hj => Hall.out j (by omega))⟩, rfl⟩

theorem contains_any (A : Option Addr) (c : Nat) (xs : List Int) (s : Int) (w : World) (hA : Ints w A xs) (hx : xs.length ≤ 1000000) :
    Calls Tryz.prog 86 #[.slice A xs.length c, .int .i64 s] w fun e w' => e = .returned (.bool (memB xs s)) ∧ w = w' := by
  have ci := index_any A c xs s w hA hx
  have Ci := Lib.hid ci
  clear ci hA
  generalize xs.length = n at *
  go_enter Tryz.func86, Tryz.ntmps86
  go_wp2_with (go_at_call 126; refine Ci.out.mono ?_; rintro e w' ⟨r, rfl, hr, rfl⟩)
  go_ret
  exact ⟨ret_b (by simp [memB]), rfl⟩
end Go.Proofs.YtebkhdhhajjhfaaGreat.Gr

/- Trains: a mesh is valid, by the code. -/
namespace Go.Proofs.YtebkhdhhajjhfaaGreat.Gr
open Go.RowKit

/-- The place k of a mesh's shafts is right: n shafts are named. -/
def slotP (n : Nat) (a b c cnt : Int) : Nat → Prop
  | 0 => if n = 0 then a = 0 else inR a cnt
  | 1 => if n ≤ 1 then b = 0 else inR b cnt ∧ b ≠ a
  | 2 => if n ≤ 2 then c = 0 else inR c cnt ∧ c ≠ a ∧ c ≠ b
  | _ => True

theorem nsS_cases (k : Int) : nsS k = 0 ∨ nsS k = 1 ∨ nsS k = 2 ∨ nsS k = 3 := by unfold nsS; split <;> (try split) <;> (try split) <;> omega

theorem validP_slots (x : Msh) (cnt : Int) : validP x cnt ↔ nsS x.kind ≠ 0 ∧ (∀ k, k < 3 → slotP (nsS x.kind) x.a x.b x.c cnt k) ∧ (if teethS x.kind = true then (1 ≤ x.n ∧ x.n ≤ 24) ∧ (1 ≤ x.m ∧ x.m ≤ 24) else x.n = 0 ∧ x.m = 0) := by
  unfold validP
  have h3 : (∀ k, k < 3 → slotP (nsS x.kind) x.a x.b x.c cnt k) ↔ slotP (nsS x.kind) x.a x.b x.c cnt 0 ∧ slotP (nsS x.kind) x.a x.b x.c cnt 1 ∧ slotP (nsS x.kind) x.a x.b x.c cnt 2 :=
    ⟨fun h => ⟨h 0 (by omega), h 1 (by omega), h 2 (by omega)⟩, fun h k hk => by
      rcases (by omega : k = 0 ∨ k = 1 ∨ k = 2) with rfl | rfl | rfl
      · exact h.1
      · exact h.2.1
      · exact h.2.2⟩
  rw [h3]
  simp only [slotP]
  rcases nsS_cases x.kind with h | h | h | h <;> rw [h] <;> simp only [ne_eq, Nat.reduceLT, Nat.reduceLeDiff, Nat.reduceEqDiff, if_true, if_false, not_true_eq_false, false_and, not_false_eq_true, true_and, and_assoc]

theorem slot_step {n : Nat} {a b c cnt : Int} {k : Nat} (h : ∀ j, j < k → slotP n a b c cnt j) (hk : slotP n a b c cnt k) : ∀ j, j < k + 1 → slotP n a b c cnt j := fun j hj => by
  by_cases e : j = k
  · subst e; exact hk
  · exact h j (by omega)

set_option maxRecDepth 100000 in
set_option maxHeartbeats 1000000 in
theorem valid_any (x : Msh) (cnt : Int) (w : World) :
    Calls Tryz.prog 121 #[x.val, .int .i64 cnt] w fun e w' => e = .returned (.bool (validB x cnt)) ∧ Ext w w' := by
  have cs := fun w' => shafts_any x.kind w'
  have cc := fun (c : Nat) (xs : List Int) (s : Int) (A : Option Addr) (w' : World) (h1 : Ints w' A xs) (h2 : xs.length ≤ 1000000) => contains_any A c xs s w' h1 h2
  have Cs := Lib.hid cs
  have Cc := Lib.hid cc
  clear cs cc
  have hv : ∀ b, (b = true ↔ validP x cnt) → b = validB x cnt := fun b h => validB_eq h
  rw [validP_slots] at hv
  have Hv := Lib.hid hv
  clear hv
  generalize validB x cnt = res at *
  obtain ⟨kind, a, b, c, n, m⟩ := x
  simp only [Msh.val] at *
  generalize nsS kind = ns at *
  generalize teethS kind = teeth at *
  go_enter Tryz.func121, Tryz.ntmps121
  go_wp2_with (go_at_call 162; refine (Cs.out _).mono ?_; rintro e w' ⟨rfl, rfl⟩)
  · go_ret
    have he : ns = 0 := by simpa using ‹((ns : Int) == 0) = true›
    exact ⟨ret_b (Hv.out _ ⟨fun h => by simp at h, fun h => absurd he h.1⟩), by simp⟩
  rename ((ns : Int) == 0) = false => hz
  have hns : ns ≠ 0 := by simpa using hz
  clear hz
  have Hns := Lib.hid hns
  clear hns
  have hq0 : ∀ (cp : Nat) (A : Option Addr) (w' : World), Calls Tryz.prog 86 #[.slice A 0 cp, .int .i64 a] w' fun e w'' => e = .returned (.bool false) ∧ w' = w'' :=
    fun cp A w' => Cc.out cp [] a A w' (Ints.nil _ _) (by simp)
  have hq1 : ∀ (cp : Nat) (w' : World) (ad : Addr), w'.cell? ad = some (vint a) → Calls Tryz.prog 86 #[.slice (some ad) 1 cp, .int .i64 b] w' fun e w'' => e = .returned (.bool (decide (b = a))) ∧ w' = w'' :=
    fun cp w' ad h => by
      have := Cc.out cp [a] b (some ad) w' (fun k hk => ⟨ad, rfl, by
        obtain rfl : k = 0 := by simp at hk; exact hk
        rw [add_zero_, h]; rfl⟩) (by simp)
      simpa [memB] using this
  have hq2 : ∀ (cp : Nat) (w' : World) (ad : Addr), w'.cell? ad = some (vint a) → w'.cell? (ad.add 1) = some (vint b) → Calls Tryz.prog 86 #[.slice (some ad) 2 cp, .int .i64 c] w' fun e w'' => e = .returned (.bool (decide (c = a ∨ c = b))) ∧ w' = w'' :=
    fun cp w' ad h h' => by
      have := Cc.out cp [a, b] c (some ad) w' (fun k hk => ⟨ad, rfl, by
        rcases (by simp at hk; omega : k = 0 ∨ k = 1) with rfl | rfl
        · rw [add_zero_, h]; rfl
        · rw [h']; rfl⟩) (by simp)
      simpa [memB] using this
  have Q0 := Lib.hid hq0
  have Q1 := Lib.hid hq1
  have Q2 := Lib.hid hq2
  clear hq0 hq1 hq2 Cc
  have x0 : ∀ w : World, (Instr.index 196 (.agg #[.int .i64 a, .int .i64 b, .int .i64 c]) (.int .i64 0)).run Tryz.prog w = .ok (.int .i64 a) w := fun _ => by kernel_rfl
  have x1 : ∀ w : World, (Instr.index 196 (.agg #[.int .i64 a, .int .i64 b, .int .i64 c]) (.int .i64 1)).run Tryz.prog w = .ok (.int .i64 b) w := fun _ => by kernel_rfl
  have x2 : ∀ w : World, (Instr.index 196 (.agg #[.int .i64 a, .int .i64 b, .int .i64 c]) (.int .i64 2)).run Tryz.prog w = .ok (.int .i64 c) w := fun _ => by kernel_rfl
  go_loop [26] (fun i => ∃ k : Nat, k ≤ 3 ∧ i = .int .i64 k ∧ ∀ j, j < k → slotP ns a b c cnt j) (fun i => 3 - (intOf i).toNat)
  case atStart => exact ⟨0, by omega, rfl, fun j hj => by omega⟩
  case round =>
    obtain ⟨k, hk, rfl, hall⟩ := hrel
    have Hall := Lib.hid hall
    clear hall
    rcases (by omega : k = 0 ∨ k = 1 ∨ k = 2 ∨ k = 3) with rfl | rfl | rfl | rfl
    · by_cases hlt : 0 < ns
      · have e1 : ((0 : Int) ≥ (ns : Int)) = False := eq_false (by omega)
        have hn : ¬ ns ≤ 0 := by omega
        have hbad : ¬ slotP ns a b c cnt 0 → false = res := fun h => Hv.out _ ⟨fun e => by simp at e, fun e => absurd (e.2.1 0 (by omega)) h⟩
        have Hbad := Lib.hid hbad
        clear hbad
        go_wp2_with (go_at_call 86; refine (Q0.out _ _ _).mono ?_; rintro e w' ⟨rfl, rfl⟩)
        · go_round
          case rel => exact ⟨1, by omega, by go_num, slot_step Hall.out (by simp only [slotP, inR]; split <;> omega)⟩
          case measure => simp [intOf]
        · go_ret
          exact ⟨ret_b (Hbad.out fun h => by simp only [slotP, inR] at h; split at h <;> omega), by simp⟩
        · go_ret
          exact ⟨ret_b (Hbad.out fun h => by simp only [slotP, inR] at h; split at h <;> omega), by simp⟩
      · have hn : ns ≤ 0 := by omega
        have hbad : ¬ slotP ns a b c cnt 0 → false = res := fun h => Hv.out _ ⟨fun e => by simp at e, fun e => absurd (e.2.1 0 (by omega)) h⟩
        have Hbad := Lib.hid hbad
        exact absurd (by omega) Hns.out
    · by_cases hlt : 1 < ns
      · have e1 : ((1 : Int) ≥ (ns : Int)) = False := eq_false (by omega)
        have hn : ¬ ns ≤ 1 := by omega
        have hbad : ¬ slotP ns a b c cnt 1 → false = res := fun h => Hv.out _ ⟨fun e => by simp at e, fun e => absurd (e.2.1 1 (by omega)) h⟩
        have Hbad := Lib.hid hbad
        clear hbad
        go_wp2_with (go_at_call 86; refine (Q1.out _ _ _ (by simp)).mono ?_; rintro e w' ⟨rfl, rfl⟩)
        · go_ret
          exact ⟨ret_b (Hbad.out fun h => by simp only [slotP, inR] at h; split at h <;> omega), by simp⟩
        · go_round
          case rel => exact ⟨2, by omega, by go_num, slot_step Hall.out (by simp only [slotP, inR]; split <;> omega)⟩
          case measure => simp [intOf]
        · go_ret
          exact ⟨ret_b (Hbad.out fun h => by simp only [slotP, inR] at h; split at h <;> omega), by simp⟩
        · go_ret
          exact ⟨ret_b (Hbad.out fun h => by simp only [slotP, inR] at h; split at h <;> omega), by simp⟩
      · have hn : ns ≤ 1 := by omega
        have hbad : ¬ slotP ns a b c cnt 1 → false = res := fun h => Hv.out _ ⟨fun e => by simp at e, fun e => absurd (e.2.1 1 (by omega)) h⟩
        have Hbad := Lib.hid hbad
        clear hbad
        go_wp2
        · go_ret
          have hne : b ≠ 0 := by simpa using ‹(b != 0) = true›
          exact ⟨ret_b (Hbad.out fun h => by simp only [slotP, inR] at h; split at h <;> omega), by simp⟩
        · have heq : b = 0 := by simpa using ‹(b != 0) = false›
          go_round
          case rel => exact ⟨2, by omega, by go_num, slot_step Hall.out (by simp only [slotP, inR]; split <;> omega)⟩
          case measure => simp [intOf]
    · by_cases hlt : 2 < ns
      · have e1 : ((2 : Int) ≥ (ns : Int)) = False := eq_false (by omega)
        have hn : ¬ ns ≤ 2 := by omega
        have hbad : ¬ slotP ns a b c cnt 2 → false = res := fun h => Hv.out _ ⟨fun e => by simp at e, fun e => absurd (e.2.1 2 (by omega)) h⟩
        have Hbad := Lib.hid hbad
        clear hbad
        go_wp2_with (go_at_call 86; refine (Q2.out _ _ _ (by simp) (by simp [Addr.add])).mono ?_; rintro e w' ⟨rfl, rfl⟩)
        · go_ret
          exact ⟨ret_b (Hbad.out fun h => by simp only [slotP, inR] at h; split at h <;> omega), by simp⟩
        · go_round
          case rel => exact ⟨3, by omega, by go_num, slot_step Hall.out (by simp only [slotP, inR]; split <;> omega)⟩
          case measure => simp [intOf]
        · go_ret
          exact ⟨ret_b (Hbad.out fun h => by simp only [slotP, inR] at h; split at h <;> omega), by simp⟩
        · go_ret
          exact ⟨ret_b (Hbad.out fun h => by simp only [slotP, inR] at h; split at h <;> omega), by simp⟩
      · have hn : ns ≤ 2 := by omega
        have hbad : ¬ slotP ns a b c cnt 2 → false = res := fun h => Hv.out _ ⟨fun e => by simp at e, fun e => absurd (e.2.1 2 (by omega)) h⟩
        have Hbad := Lib.hid hbad
        clear hbad
        go_wp2
        · go_ret
          have hne : c ≠ 0 := by simpa using ‹(c != 0) = true›
          exact ⟨ret_b (Hbad.out fun h => by simp only [slotP, inR] at h; split at h <;> omega), by simp⟩
        · have heq : c = 0 := by simpa using ‹(c != 0) = false›
          go_round
          case rel => exact ⟨3, by omega, by go_num, slot_step Hall.out (by simp only [slotP, inR]; split <;> omega)⟩
          case measure => simp [intOf]
    · have hsl : ∀ k, k < 3 → slotP ns a b c cnt k := Hall.out
      have hv2 : ∀ r : Bool, (r = true ↔ if teeth = true then (1 ≤ n ∧ n ≤ 24) ∧ 1 ≤ m ∧ m ≤ 24 else n = 0 ∧ m = 0) → r = res := fun r h => Hv.out r ⟨fun e => ⟨Hns.out, hsl, h.1 e⟩, fun e => h.2 e.2.2⟩
      have Hv2 := Lib.hid hv2
      clear hv2 hsl
      cases teeth
      · go_wp2
        all_goals
          go_ret
          refine ⟨ret_b (Hv2.out _ ?_), by simp⟩
          simp [*]
      · go_wp2
        all_goals
          go_ret
          refine ⟨ret_b (Hv2.out _ ?_), by simp⟩
          simp
          omega
end Go.Proofs.YtebkhdhhajjhfaaGreat.Gr

/- Trains: the reference's plain mesh. -/
namespace Go.Proofs.YtebkhdhhajjhfaaGreat.Gr
open Go.RowKit

def plainS (x : Msh) : Msh :=
  { kind := x.kind, a := x.a, b := if x.kind = 4 then 0 else x.b, c := if x.kind = 5 ∨ x.kind = 6 then x.c else 0,
    n := if teethS x.kind = true then x.n else 0, m := if teethS x.kind = true then x.m else 0 }

end Go.Proofs.YtebkhdhhajjhfaaGreat.Gr

/- Trains: a mesh is valid, by the reference. -/
namespace Go.Proofs.YtebkhdhhajjhfaaGreat.Gr
open Go.RowKit


theorem nsS_kind {k : Int} (h : nsS k ≠ 0) : 1 ≤ k ∧ k ≤ 7 := by
  unfold nsS at h
  split at h
  · omega
  · split at h
    · omega
    · split at h
      · omega
      · exact absurd rfl h

end Go.Proofs.YtebkhdhhajjhfaaGreat.Gr

/- Trains in memory; a train is valid, by the code and by the reference. -/
namespace Go.Proofs.YtebkhdhhajjhfaaGreat.Gr
open Go.RowKit

def MRow (w : World) (A : Option Addr) (ms : List Msh) : Prop := Row w A (ms.map Msh.cells).flatten
theorem MRow.ext {w w' : World} {A : Option Addr} {ms : List Msh} (h : MRow w A ms) (he : Ext w w') : MRow w' A ms := Row.ext h he

theorem MRow.at_ {w : World} {A : Option Addr} {ms : List Msh} (h : MRow w A ms) {k : Nat} (hk : k < ms.length) :
    ∃ ad, A = some ad ∧ (∀ w', Ext w w' → w'.cell? (ad.add (k * 6)) = some (.int .u8 ms[k].kind)) ∧
      (∀ w', Ext w w' → w'.cell? ⟨(ad.add (k * 6)).block, (ad.add (k * 6)).off + 1, none⟩ = some (.int .i64 ms[k].a)) ∧
      (∀ w', Ext w w' → w'.cell? ⟨(ad.add (k * 6)).block, (ad.add (k * 6)).off + 2, none⟩ = some (.int .i64 ms[k].b)) ∧
      (∀ w', Ext w w' → w'.cell? ⟨(ad.add (k * 6)).block, (ad.add (k * 6)).off + 3, none⟩ = some (.int .i64 ms[k].c)) ∧
      (∀ w', Ext w w' → w'.cell? ⟨(ad.add (k * 6)).block, (ad.add (k * 6)).off + 4, none⟩ = some (.int .i64 ms[k].n)) ∧
      (∀ w', Ext w w' → w'.cell? ⟨(ad.add (k * 6)).block, (ad.add (k * 6)).off + 5, none⟩ = some (.int .i64 ms[k].m)) := by
  obtain ⟨ad, ha, hc⟩ := Row.struct (size := 6) h (by simp [Msh.cells]) (k := k) (by simpa using hk) (by omega)
  refine ⟨ad, ha, fun w' he => ?_, fun w' he => ?_, fun w' he => ?_, fun w' he => ?_, fun w' he => ?_, fun w' he => ?_⟩
  · have := hc 0 (by omega) w' he
    rw [add_zero_] at this
    simpa [Msh.cells] using this
  · have := hc 1 (by omega) w' he
    rw [add_lit _ _ (by omega)] at this
    simpa [Msh.cells] using this
  · have := hc 2 (by omega) w' he
    rw [add_lit _ _ (by omega)] at this
    simpa [Msh.cells] using this
  · have := hc 3 (by omega) w' he
    rw [add_lit _ _ (by omega)] at this
    simpa [Msh.cells] using this
  · have := hc 4 (by omega) w' he
    rw [add_lit _ _ (by omega)] at this
    simpa [Msh.cells] using this
  · have := hc 5 (by omega) w' he
    rw [add_lit _ _ (by omega)] at this
    simpa [Msh.cells] using this

/-- A train: the number of shafts, the meshes. -/
def trainP (s : Int) (ms : List Msh) : Prop := 1 ≤ s ∧ s ≤ 8 ∧ ms.length ≤ 16 ∧ ∀ k (hk : k < ms.length), validB ms[k] s = true
instance (s : Int) (ms : List Msh) : Decidable (trainP s ms) := by unfold trainP; infer_instance
def trainB (s : Int) (ms : List Msh) : Bool := decide (trainP s ms)
def trainE (s : Int) (ms : List Msh) : Int := if trainB s ms = true then 0 else 40

theorem trainE_good {s : Int} {ms : List Msh} (h : 1 ≤ s ∧ s ≤ 8 ∧ ms.length ≤ 16) (h' : ∀ k (hk : k < ms.length), validB ms[k] s = true) : 0 = trainE s ms :=
  (if_pos (decide_eq_true (⟨h.1, h.2.1, h.2.2, h'⟩ : trainP s ms))).symm
theorem trainE_bad {s : Int} {ms : List Msh} (h : ¬ (1 ≤ s ∧ s ≤ 8 ∧ ms.length ≤ 16)) : 40 = trainE s ms :=
  (if_neg (fun h' => h (by have := of_decide_eq_true h'; exact ⟨this.1, this.2.1, this.2.2.1⟩))).symm
theorem trainE_bad2 {s : Int} {ms : List Msh} {k : Nat} (hk : k < ms.length) (h : validB ms[k] s = false) : 40 = trainE s ms :=
  (if_neg (fun h' => by have := (of_decide_eq_true h').2.2.2 k hk; rw [h] at this; cases this)).symm

set_option maxRecDepth 100000 in
set_option maxHeartbeats 1000000 in
theorem check_any (A : Option Addr) (c : Nat) (s : Int) (ms : List Msh) (w : World) (hA : MRow w A ms) (hl : ms.length ≤ 1000000) :
    Calls Tryz.prog 82 #[.agg #[.int .i64 s, .slice A ms.length c]] w fun e w' => e = .returned (.int .i64 (trainE s ms)) ∧ Ext w w' := by
  have ha := fun k (hk : k < ms.length) => hA.at_ hk
  have cv := fun (x : Msh) (w' : World) => valid_any x s w'
  have hgood := trainE_good (s := s) (ms := ms)
  have hbad := trainE_bad (s := s) (ms := ms)
  have hbad2 := fun k (hk : k < ms.length) => trainE_bad2 (s := s) hk
  have Ha := Lib.hid ha
  have Cv := Lib.hid cv
  have Hgood := Lib.hid hgood
  have Hbad := Lib.hid hbad
  have Hbad2 := Lib.hid hbad2
  clear ha cv hgood hbad hbad2 hA
  generalize trainE s ms = res at *
  obtain ⟨m, hm⟩ : ∃ m, m = ms.length := ⟨_, rfl⟩
  rw [← hm]
  rw [← hm] at hl
  by_cases h : 1 ≤ s ∧ s ≤ 8 ∧ m ≤ 16
  · have Hm := Lib.hid hm
    have Hh := Lib.hid h
    obtain ⟨h1, h8, hm16⟩ := h
    clear hm
    go_enter Tryz.func82, Tryz.ntmps82
    go_wp2
    have hp0 : ∀ w', Ext (w.alloc (.cells #[.int .i64 s, .slice A m c] 46)) w' → w'.cell? ⟨w.heap.size, 0, none⟩ = some (.int .i64 s) := fun w' he => he.cell (by simp)
    have hp1 : ∀ w', Ext (w.alloc (.cells #[.int .i64 s, .slice A m c] 46)) w' → w'.cell? ⟨w.heap.size, 1, none⟩ = some (.slice A m c) := fun w' he => he.cell (by simp)
    have hex0 : Ext w (w.alloc (.cells #[.int .i64 s, .slice A m c] 46)) := by simp
    generalize hw0 : w.alloc (.cells #[.int .i64 s, .slice A m c] 46) = w0 at *
    have Hp0 := Lib.hid hp0
    have Hex0 := Lib.hid hex0
    clear hp0 hp1 hex0 hw0
    go_loopw [22] (fun i wr => ∃ k : Nat, k ≤ m ∧ i = .int .i64 k ∧ Ext w0 wr ∧ ∀ j (hj : j < ms.length), j < k → validB ms[j] s = true) (fun i _ => m - (intOf i).toNat)
    case atStart => exact ⟨0, by omega, rfl, Ext.refl _, fun j _ hj => by omega⟩
    case round =>
      obtain ⟨k, hk, rfl, hex, hall⟩ := hrel
      have Hall := Lib.hid hall
      clear hall
      by_cases hlt : k < m
      · have hkp : k < ms.length := by rw [← Hm.out]; exact hlt
        obtain ⟨ad, rfl, q0, q1, q2, q3, q4, q5⟩ := Ha.out k hkp
        have hp0 : ∀ w', Ext wr w' → w'.cell? ⟨w.heap.size, 0, none⟩ = some (.int .i64 s) := fun w' he => Hp0.out w' (hex.trans he)
        have hexw := Hex0.out.trans hex
        have q0 := q0 wr hexw
        have q1 := q1 wr hexw
        have q2 := q2 wr hexw
        have q3 := q3 wr hexw
        have q4 := q4 wr hexw
        have q5 := q5 wr hexw
        have cv := Cv.out ms[k]
        have hbad2 := Hbad2.out k hkp
        have hstep : validB ms[k] s = true → ∀ j (hj : j < ms.length), j < k + 1 → validB ms[j] s = true := fun h j hj hjk => by
          by_cases e : j = k
          · subst e; exact h
          · exact Hall.out j hj (by omega)
        simp only [Msh.val] at cv
        have Cv' := Lib.hid cv
        have Hst := Lib.hid hstep
        have Hb := Lib.hid hbad2
        clear hstep cv hbad2
        generalize validB ms[k] s = vb at *
        generalize ms[k] = x at *
        obtain ⟨kind, a, b, c3, n, m3⟩ := x
        simp only at *
        cases vb
        · go_wp2_with (go_at_call 121; refine (Cv'.out _).mono ?_; rintro e w' ⟨rfl, hx⟩)
          go_ret
          exact ⟨ret_i (Hb.out trivial), hexw.trans (Ext.trans (by simp) hx)⟩
        · go_wp2_with (go_at_call 121; refine (Cv'.out _).mono ?_; rintro e w' ⟨rfl, hx⟩)
          go_roundw
          case rel => exact ⟨k + 1, by omega, by go_num, hex.trans (Ext.trans (by simp) hx), Hst.out trivial⟩
          case measure => simp [intOf]; omega
      · go_wp2
        go_ret
        have hm := Hm.out
        exact ⟨ret_i (Hgood.out (by rw [← hm]; exact Hh.out) (fun j hj => Hall.out j hj (by omega))), Hex0.out.trans hex⟩
  · rw [hm] at h
    have hb := Hbad.out h
    have Hb := Lib.hid hb
    clear hb
    rw [← hm] at h
    clear hm
    go_enter Tryz.func82, Tryz.ntmps82
    go_wp2
    · go_ret
      exact ⟨ret_i Hb.out, by simp⟩
    · go_ret
      exact ⟨ret_i Hb.out, by simp⟩
    · go_ret
      exact ⟨ret_i Hb.out, by simp⟩
end Go.Proofs.YtebkhdhhajjhfaaGreat.Gr

/- A train is valid, by the reference. -/
namespace Go.Proofs.YtebkhdhhajjhfaaGreat.Gr
open Go.RowKit

end Go.Proofs.YtebkhdhhajjhfaaGreat.Gr

/- Tuple assignments to places of the call's own row: the kind of growth, and the steps. No program in sight. -/
namespace Go.Proofs.YtebkhdhhajjhfaaGreat.Gr
open Go.RowKit

section
variable (b : World) (g n : Nat) (L0 fin : List Int)
/-- The row at block g is the call's own since b, and holds at each place what L0 says, or what fin says. -/
def Mixed (w : World) : Prop := ∃ ys : List Int, Own b w 3 1 (.slice (some ⟨g, 0, none⟩) n n) n (ys.map vint) ∧ ∀ i, i < n → ys[i]? = L0[i]? ∨ ys[i]? = fin[i]?

def ownPre : Cw.Pre where
  R := fun w w' => Mixed b g n L0 fin w → (Mixed b g n L0 fin w' ∧ ∀ i, i < n → w.cell? ⟨g, i, none⟩ = (fin.map vint)[i]? → w'.cell? ⟨g, i, none⟩ = (fin.map vint)[i]?)
  refl := fun _ h => ⟨h, fun _ _ h => h⟩
  trans := fun h1 h2 h => ⟨(h2 (h1 h).1).1, fun i hi hc => (h2 (h1 h).1).2 i hi ((h1 h).2 i hi hc)⟩
  drawn := fun h n hm => ⟨by obtain ⟨ys, ho, hy⟩ := (h hm).1; exact ⟨ys, ho.later ((Ext.refl _).drawn _), hy⟩, fun i hi hc => (h hm).2 i hi hc⟩
end

section
variable {b : World} {g n : Nat} {L0 fin : List Int}
theorem Mixed.ext {w : World} (h : Mixed b g n L0 fin w) : Ext b w := h.choose_spec.1.ext
theorem Mixed.free {w : World} (h : Mixed b g n L0 fin w) (j : Nat) : w.frozen? ⟨g, j, none⟩ = false := h.choose_spec.1.free j
theorem Mixed.len {w : World} (h : Mixed b g n L0 fin w) : h.choose.length = n := by
  have := h.choose_spec.1.len
  simpa using this
theorem Mixed.cell {w : World} (h : Mixed b g n L0 fin w) {i : Nat} (hi : i < n) : ∃ y, w.cell? ⟨g, i, none⟩ = some (vint y) := by
  have hl := h.len
  refine ⟨h.choose[i]'(by omega), ?_⟩
  rw [h.choose_spec.1.cell (j := i) (by rw [List.length_map]; omega)]
  rw [List.getElem?_eq_getElem (by rw [List.length_map]; omega), List.getElem_map]
theorem Mixed.start {w : World} (h : Own b w 3 1 (.slice (some ⟨g, 0, none⟩) n n) n (L0.map vint)) : Mixed b g n L0 fin w := ⟨L0, h, fun _ _ => .inl rfl⟩
theorem Mixed.store {w : World} (h : Mixed b g n L0 fin w) {i : Nat} {x : Int} (hi : i < n) (hx : fin[i]? = some x) : Mixed b g n L0 fin (w.setCell ⟨g, i, none⟩ (vint x)) := by
  obtain ⟨ys, ho, hy⟩ := h
  have hl : ys.length = n := by have := ho.len; simpa using this
  refine ⟨ys.set i x, ?_, fun j hj => ?_⟩
  · rw [List.map_set]; exact ho.store i (vint x)
  · by_cases e : i = j
    · subst e
      rw [List.getElem?_set_self (by omega)]
      exact .inr hx.symm
    · rw [List.getElem?_set_ne e]
      exact hy j hj
theorem Mixed.setR {w : World} (h : Mixed b g n L0 fin w) {i : Nat} {x : Int} (hi : i < n) (hx : fin[i]? = some x) : (ownPre b g n L0 fin).R w (w.setCell ⟨g, i, none⟩ (vint x)) := fun _ => by
  refine ⟨h.store hi hx, fun j hj hc => ?_⟩
  obtain ⟨y, hy⟩ := h.cell hi
  by_cases e : i = j
  · subst e
    rw [World.cell?_setCell_same _ _ _ hy]
    rw [List.getElem?_map, hx]; rfl
  · rw [World.cell?_setCell_other _ _ _ _ (by simp)]
    exact hc
/-- At the end: what has been stored is there. -/
theorem Mixed.final {w : World} (h : Mixed b g n L0 fin w) (hl : fin.length = n) (hc : ∀ i, i < n → L0[i]? = fin[i]? ∨ w.cell? ⟨g, i, none⟩ = (fin.map vint)[i]?) :
    Own b w 3 1 (.slice (some ⟨g, 0, none⟩) n n) n (fin.map vint) := by
  obtain ⟨ys, ho, hy⟩ := h
  have hl' : ys.length = n := by have := ho.len; simpa using this
  have : ys = fin := by
    refine List.ext_getElem? fun i => ?_
    by_cases hi : i < n
    · rcases hc i hi with h1 | h1
      · rcases hy i hi with h2 | h2
        · rw [h2, h1]
        · exact h2
      · rw [ho.cell (j := i) (by rw [List.length_map]; omega)] at h1
        rw [List.getElem?_map, List.getElem?_map, List.getElem?_eq_getElem (by omega), List.getElem?_eq_getElem (by omega)] at h1
        rw [List.getElem?_eq_getElem (by omega), List.getElem?_eq_getElem (by omega)]
        simpa [vint] using h1
    · rw [List.getElem?_eq_none (by omega), List.getElem?_eq_none (by omega)]
  rw [← this]
  exact ho
/-- .. from the growth and the fact of a store. -/
theorem ownPre_stored {w0 w : World} (h : Mixed b g n L0 fin w0) {i : Nat} {x : Int} (hi : i < n) (hx : fin[i]? = some x)
    (hs : ∃ w1, (ownPre b g n L0 fin).R w0 w1 ∧ (ownPre b g n L0 fin).R (w1.setCell ⟨g, i, none⟩ (vint x)) w) : w.cell? ⟨g, i, none⟩ = (fin.map vint)[i]? := by
  obtain ⟨w1, h1, h2⟩ := hs
  have hm := (h1 h).1
  obtain ⟨y, hy⟩ := hm.cell hi
  refine (h2 (hm.store hi hx)).2 i hi ?_
  rw [World.cell?_setCell_same _ _ _ hy]
  rw [List.getElem?_map, hx]; rfl
end

def facS (x : Msh) (n : Nat) : List Int :=
  if x.kind = 1 then ((List.replicate n 0).set x.a.toNat x.n).set x.b.toNat x.m
  else if x.kind = 2 then ((List.replicate n 0).set x.a.toNat x.n).set x.b.toNat (-x.m)
  else if x.kind = 4 then (List.replicate n 0).set x.a.toNat 1
  else if x.kind = 5 then (((List.replicate n 0).set x.a.toNat 1).set x.b.toNat 1).set x.c.toNat (-2)
  else if x.kind = 6 then (((List.replicate n 0).set x.a.toNat x.n).set x.b.toNat x.m).set x.c.toNat (-(x.n + x.m))
  else ((List.replicate n 0).set x.a.toNat 1).set x.b.toNat (-1)
theorem facS_length (x : Msh) (n : Nat) : (facS x n).length = n := by
  unfold facS
  repeat' split
  all_goals simp
end Go.Proofs.YtebkhdhhajjhfaaGreat.Gr
