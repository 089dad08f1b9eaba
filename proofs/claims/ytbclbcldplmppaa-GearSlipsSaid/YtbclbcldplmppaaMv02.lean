/- Trains: a mesh is valid, by the code. -/
import Derived.Test.YtbclbcldplmppaaMv01
namespace Go.Proofs.Ytbclbcldplmppaa
open Go.RowKit

/-- The place k of a mesh's shafts is right: n shafts are named. -/
def slotP (n : Nat) (a b c cnt : Int) : Nat → Prop
  | 0 => if n = 0 then a = 0 else inR a cnt
  | 1 => if n ≤ 1 then b = 0 else inR b cnt ∧ b ≠ a
  | 2 => if n ≤ 2 then c = 0 else inR c cnt ∧ c ≠ a ∧ c ≠ b
  | _ => True

theorem nsS_cases (k : Int) : nsS k = 0 ∨ nsS k = 1 ∨ nsS k = 2 ∨ nsS k = 3 := by unfold nsS; split <;> (try split) <;> (try split) <;> omega

theorem validP_slots (x : Msh) (cnt : Int) : validP x cnt ↔ nsS x.kind ≠ 0 ∧ (∀ k, k < 3 → slotP (nsS x.kind) x.a x.b x.c cnt k) ∧ (if teethS x.kind = true then (1 ≤ x.n ∧ x.n ≤ 24) ∧ (1 ≤ x.m ∧ x.m ≤ 24) else x.n = 0 ∧ x.m = 0) := by
  unfold validP
  have h3 : (∀ k, k < 3 → slotP (nsS x.kind) x.a x.b x.c cnt k) ↔ slotP (nsS x.kind) x.a x.b x.c cnt 0 ∧ slotP (nsS x.kind) x.a x.b x.c cnt 1 ∧ slotP (nsS x.kind) x.a x.b x.c cnt 2 :=
    ⟨fun h => ⟨h 0 (by omega), h 1 (by omega), h 2 (by omega)⟩, fun h k hk => by
      rcases (by omega : k = 0 ∨ k = 1 ∨ k = 2) with rfl | rfl | rfl
      · exact h.1
      · exact h.2.1
      · exact h.2.2⟩
  rw [h3]
  simp only [slotP]
  rcases nsS_cases x.kind with h | h | h | h <;> rw [h] <;> simp only [ne_eq, Nat.reduceLT, Nat.reduceLeDiff, Nat.reduceEqDiff, if_true, if_false, not_true_eq_false, false_and, not_false_eq_true, true_and, and_assoc]

theorem slot_step {n : Nat} {a b c cnt : Int} {k : Nat} (h : ∀ j, j < k → slotP n a b c cnt j) (hk : slotP n a b c cnt k) : ∀ j, j < k + 1 → slotP n a b c cnt j := fun j hj => by
  by_cases e : j = k
  · subst e; exact hk
  · exact h j (by omega)

set_option maxRecDepth 100000 in
set_option maxHeartbeats 1000000 in
theorem valid_any (x : Msh) (cnt : Int) (w : World) :
    Calls Try.prog 64 #[x.val, .int .i64 cnt] w fun e w' => e = .returned (.bool (validB x cnt)) ∧ Ext w w' := by
  have cs := fun w' => shafts_any x.kind w'
  have cc := fun (c : Nat) (xs : List Int) (s : Int) (A : Option Addr) (w' : World) (h1 : Ints w' A xs) (h2 : xs.length ≤ 1000000) => contains_any A c xs s w' h1 h2
  have Cs := Lib.hid cs
  have Cc := Lib.hid cc
  clear cs cc
  have hv : ∀ b, (b = true ↔ validP x cnt) → b = validB x cnt := fun b h => validB_eq h
  rw [validP_slots] at hv
  have Hv := Lib.hid hv
  clear hv
  generalize validB x cnt = res at *
  obtain ⟨kind, a, b, c, n, m⟩ := x
  simp only [Msh.val] at *
  generalize nsS kind = ns at *
  generalize teethS kind = teeth at *
  go_enter Try.func64, Try.ntmps64
  go_wp2_with (go_at_call 92; refine (Cs.out _).mono ?_; rintro e w' ⟨rfl, rfl⟩)
  · go_ret
    have he : ns = 0 := by simpa using ‹((ns : Int) == 0) = true›
    exact ⟨ret_b (Hv.out _ ⟨fun h => by simp at h, fun h => absurd he h.1⟩), by simp⟩
  rename ((ns : Int) == 0) = false => hz
  have hns : ns ≠ 0 := by simpa using hz
  clear hz
  have Hns := Lib.hid hns
  clear hns
  have hq0 : ∀ (cp : Nat) (A : Option Addr) (w' : World), Calls Try.prog 93 #[.slice A 0 cp, .int .i64 a] w' fun e w'' => e = .returned (.bool false) ∧ w' = w'' :=
    fun cp A w' => Cc.out cp [] a A w' (Ints.nil _ _) (by simp)
  have hq1 : ∀ (cp : Nat) (w' : World) (ad : Addr), w'.cell? ad = some (vint a) → Calls Try.prog 93 #[.slice (some ad) 1 cp, .int .i64 b] w' fun e w'' => e = .returned (.bool (decide (b = a))) ∧ w' = w'' :=
    fun cp w' ad h => by
      have := Cc.out cp [a] b (some ad) w' (fun k hk => ⟨ad, rfl, by
        obtain rfl : k = 0 := by simp at hk; exact hk
        rw [add_zero_, h]; rfl⟩) (by simp)
      simpa [memB] using this
  have hq2 : ∀ (cp : Nat) (w' : World) (ad : Addr), w'.cell? ad = some (vint a) → w'.cell? (ad.add 1) = some (vint b) → Calls Try.prog 93 #[.slice (some ad) 2 cp, .int .i64 c] w' fun e w'' => e = .returned (.bool (decide (c = a ∨ c = b))) ∧ w' = w'' :=
    fun cp w' ad h h' => by
      have := Cc.out cp [a, b] c (some ad) w' (fun k hk => ⟨ad, rfl, by
        rcases (by simp at hk; omega : k = 0 ∨ k = 1) with rfl | rfl
        · rw [add_zero_, h]; rfl
        · rw [h']; rfl⟩) (by simp)
      simpa [memB] using this
  have Q0 := Lib.hid hq0
  have Q1 := Lib.hid hq1
  have Q2 := Lib.hid hq2
  clear hq0 hq1 hq2 Cc
  have x0 : ∀ w : World, (Instr.index 130 (.agg #[.int .i64 a, .int .i64 b, .int .i64 c]) (.int .i64 0)).run Try.prog w = .ok (.int .i64 a) w := fun _ => by kernel_rfl
  have x1 : ∀ w : World, (Instr.index 130 (.agg #[.int .i64 a, .int .i64 b, .int .i64 c]) (.int .i64 1)).run Try.prog w = .ok (.int .i64 b) w := fun _ => by kernel_rfl
  have x2 : ∀ w : World, (Instr.index 130 (.agg #[.int .i64 a, .int .i64 b, .int .i64 c]) (.int .i64 2)).run Try.prog w = .ok (.int .i64 c) w := fun _ => by kernel_rfl
  go_loop [26] (fun i => ∃ k : Nat, k ≤ 3 ∧ i = .int .i64 k ∧ ∀ j, j < k → slotP ns a b c cnt j) (fun i => 3 - (intOf i).toNat)
  case atStart => exact ⟨0, by omega, rfl, fun j hj => by omega⟩
  case round =>
    obtain ⟨k, hk, rfl, hall⟩ := hrel
    have Hall := Lib.hid hall
    clear hall
    rcases (by omega : k = 0 ∨ k = 1 ∨ k = 2 ∨ k = 3) with rfl | rfl | rfl | rfl
    · by_cases hlt : 0 < ns
      · have e1 : ((0 : Int) ≥ (ns : Int)) = False := eq_false (by omega)
        have hn : ¬ ns ≤ 0 := by omega
        have hbad : ¬ slotP ns a b c cnt 0 → false = res := fun h => Hv.out _ ⟨fun e => by simp at e, fun e => absurd (e.2.1 0 (by omega)) h⟩
        have Hbad := Lib.hid hbad
        clear hbad
        go_wp2_with (go_at_call 93; refine (Q0.out _ _ _).mono ?_; rintro e w' ⟨rfl, rfl⟩)
        · go_round
          case rel => exact ⟨1, by omega, by go_num, slot_step Hall.out (by simp only [slotP, inR]; split <;> omega)⟩
          case measure => simp [intOf]
        · go_ret
          exact ⟨ret_b (Hbad.out fun h => by simp only [slotP, inR] at h; split at h <;> omega), by simp⟩
        · go_ret
          exact ⟨ret_b (Hbad.out fun h => by simp only [slotP, inR] at h; split at h <;> omega), by simp⟩
      · have hn : ns ≤ 0 := by omega
        have hbad : ¬ slotP ns a b c cnt 0 → false = res := fun h => Hv.out _ ⟨fun e => by simp at e, fun e => absurd (e.2.1 0 (by omega)) h⟩
        have Hbad := Lib.hid hbad
        exact absurd (by omega) Hns.out
    · by_cases hlt : 1 < ns
      · have e1 : ((1 : Int) ≥ (ns : Int)) = False := eq_false (by omega)
        have hn : ¬ ns ≤ 1 := by omega
        have hbad : ¬ slotP ns a b c cnt 1 → false = res := fun h => Hv.out _ ⟨fun e => by simp at e, fun e => absurd (e.2.1 1 (by omega)) h⟩
        have Hbad := Lib.hid hbad
        clear hbad
        go_wp2_with (go_at_call 93; refine (Q1.out _ _ _ (by simp)).mono ?_; rintro e w' ⟨rfl, rfl⟩)
        · go_ret
          exact ⟨ret_b (Hbad.out fun h => by simp only [slotP, inR] at h; split at h <;> omega), by simp⟩
        · go_round
          case rel => exact ⟨2, by omega, by go_num, slot_step Hall.out (by simp only [slotP, inR]; split <;> omega)⟩
          case measure => simp [intOf]
        · go_ret
          exact ⟨ret_b (Hbad.out fun h => by simp only [slotP, inR] at h; split at h <;> omega), by simp⟩
        · go_ret
          exact ⟨ret_b (Hbad.out fun h => by simp only [slotP, inR] at h; split at h <;> omega), by simp⟩
      · have hn : ns ≤ 1 := by omega
        have hbad : ¬ slotP ns a b c cnt 1 → false = res := fun h => Hv.out _ ⟨fun e => by simp at e, fun e => absurd (e.2.1 1 (by omega)) h⟩
        have Hbad := Lib.hid hbad
        clear hbad
        go_wp2
        · go_ret
          have hne : b ≠ 0 := by simpa using ‹(b != 0) = true›
          exact ⟨ret_b (Hbad.out fun h => by simp only [slotP, inR] at h; split at h <;> omega), by simp⟩
        · have heq : b = 0 := by simpa using ‹(b != 0) = false›
          go_round
          case rel => exact ⟨2, by omega, by go_num, slot_step Hall.out (by simp only [slotP, inR]; split <;> omega)⟩
          case measure => simp [intOf]
    · by_cases hlt : 2 < ns
      · have e1 : ((2 : Int) ≥ (ns : Int)) = False := eq_false (by omega)
        have hn : ¬ ns ≤ 2 := by omega
        have hbad : ¬ slotP ns a b c cnt 2 → false = res := fun h => Hv.out _ ⟨fun e => by simp at e, fun e => absurd (e.2.1 2 (by omega)) h⟩
        have Hbad := Lib.hid hbad
        clear hbad
        go_wp2_with (go_at_call 93; refine (Q2.out _ _ _ (by simp) (by simp [Addr.add])).mono ?_; rintro e w' ⟨rfl, rfl⟩)
        · go_ret
          exact ⟨ret_b (Hbad.out fun h => by simp only [slotP, inR] at h; split at h <;> omega), by simp⟩
        · go_round
          case rel => exact ⟨3, by omega, by go_num, slot_step Hall.out (by simp only [slotP, inR]; split <;> omega)⟩
          case measure => simp [intOf]
        · go_ret
          exact ⟨ret_b (Hbad.out fun h => by simp only [slotP, inR] at h; split at h <;> omega), by simp⟩
        · go_ret
          exact ⟨ret_b (Hbad.out fun h => by simp only [slotP, inR] at h; split at h <;> omega), by simp⟩
      · have hn : ns ≤ 2 := by omega
        have hbad : ¬ slotP ns a b c cnt 2 → false = res := fun h => Hv.out _ ⟨fun e => by simp at e, fun e => absurd (e.2.1 2 (by omega)) h⟩
        have Hbad := Lib.hid hbad
        clear hbad
        go_wp2
        · go_ret
          have hne : c ≠ 0 := by simpa using ‹(c != 0) = true›
          exact ⟨ret_b (Hbad.out fun h => by simp only [slotP, inR] at h; split at h <;> omega), by simp⟩
        · have heq : c = 0 := by simpa using ‹(c != 0) = false›
          go_round
          case rel => exact ⟨3, by omega, by go_num, slot_step Hall.out (by simp only [slotP, inR]; split <;> omega)⟩
          case measure => simp [intOf]
    · have hsl : ∀ k, k < 3 → slotP ns a b c cnt k := Hall.out
      have hv2 : ∀ r : Bool, (r = true ↔ if teeth = true then (1 ≤ n ∧ n ≤ 24) ∧ 1 ≤ m ∧ m ≤ 24 else n = 0 ∧ m = 0) → r = res := fun r h => Hv.out r ⟨fun e => ⟨Hns.out, hsl, h.1 e⟩, fun e => h.2 e.2.2⟩
      have Hv2 := Lib.hid hv2
      clear hv2 hsl
      cases teeth
      · go_wp2
        all_goals
          go_ret
          refine ⟨ret_b (Hv2.out _ ?_), by simp⟩
          simp [*]
      · go_wp2
        all_goals
          go_ret
          refine ⟨ret_b (Hv2.out _ ?_), by simp⟩
          simp
          omega
end Go.Proofs.Ytbclbcldplmppaa

/- Trains: the reference's plain mesh. -/
namespace Go.Proofs.Ytbclbcldplmppaa
open Go.RowKit

def plainS (x : Msh) : Msh :=
  { kind := x.kind, a := x.a, b := if x.kind = 4 then 0 else x.b, c := if x.kind = 5 ∨ x.kind = 6 then x.c else 0,
    n := if teethS x.kind = true then x.n else 0, m := if teethS x.kind = true then x.m else 0 }

set_option maxRecDepth 100000 in
set_option maxHeartbeats 1000000 in
theorem plain_any (x : Msh) (w : World) :
    Calls Try.prog 104 #[x.val] w fun e w' => e = .returned (plainS x).val ∧ Ext w w' := by
  obtain ⟨kind, a, b, c, n, m⟩ := x
  by_cases h : kind = 1 ∨ kind = 2 ∨ kind = 4 ∨ kind = 5 ∨ kind = 6
  · rcases h with rfl | rfl | rfl | rfl | rfl
    all_goals
      simp only [Msh.val]
      go_enter Try.func104, Try.ntmps104
      go_wp2
      refine bodyPost_ret (by simp [results, Try.results104, go_sem]; try rfl) rfl ?_
      refine ⟨rfl, ?_⟩
      exact (((Ext.refl w).alloc _).alloc _).alloc _
  · have h1 : (kind == 1) = false := beq_eq_false_iff_ne.2 (by omega)
    have h2 : (kind == 2) = false := beq_eq_false_iff_ne.2 (by omega)
    have h4 : (kind == 4) = false := beq_eq_false_iff_ne.2 (by omega)
    have h5 : (kind == 5) = false := beq_eq_false_iff_ne.2 (by omega)
    have h6 : (kind == 6) = false := beq_eq_false_iff_ne.2 (by omega)
    have hp : plainS ⟨kind, a, b, c, n, m⟩ = ⟨kind, a, b, 0, 0, 0⟩ := by
      unfold plainS teethS
      simp only [decide_eq_true_eq]
      rw [if_neg (by omega), if_neg (by omega), if_neg (by omega), if_neg (by omega)]
    rw [hp]
    simp only [Msh.val]
    clear h hp
    go_enter Try.func104, Try.ntmps104
    go_wp2
    refine bodyPost_ret (by simp [results, Try.results104, go_sem]; try rfl) rfl ?_
    refine ⟨rfl, ?_⟩
    exact (((Ext.refl w).alloc _).alloc _).alloc _
end Go.Proofs.Ytbclbcldplmppaa

/- Trains: a mesh is valid, by the reference. -/
namespace Go.Proofs.Ytbclbcldplmppaa
open Go.RowKit

section
variable {P : Program} {ops : Array Oper} {S : Spec} {w0 : World}
/-- An operation that is not wanted. -/
theorem calm_skip {Q : Act → Fx → Prop} {o : Oper} {l : List Oper} {k : Nat} {a : Act} {F : Fx} (hw : Region.wanted o (yielded ops a.tmps) = false)
    (hn : wpCalm P ops S w0 Q l (k + 1) (a.put o.dst undef) F) : wpCalm P ops S w0 Q (o :: l) k a F :=
  ⟨fun h => by (rw [hw] at h; cases h), fun h => by (rw [hw] at h; cases h), fun _ => hn⟩
end

set_option maxRecDepth 100000 in
theorem neq_msh (x y : Msh) (w : World) : (binOp .neq 57 x.val y.val).run Try.prog w = .ok (.bool (!decide (x = y))) w := by
  cases x
  cases y
  simp only [Msh.val]
  simp [go_sem]
  repeat' split
  all_goals simp [*]

/-- One value for operation k, another one for the others: behind a name. -/
def pickV (k : Nat) (u v : Value) (j : Nat) : Value := bif j == k then u else v

theorem nsS_kind {k : Int} (h : nsS k ≠ 0) : 1 ≤ k ∧ k ≤ 7 := by
  unfold nsS at h
  split at h
  · omega
  · split at h
    · omega
    · split at h
      · omega
      · exact absurd rfl h

theorem plain_ok {x : Msh} {cnt : Int} (h : validP x cnt) : x = plainS x := by
  obtain ⟨kind, a, b, c, n, m⟩ := x
  unfold validP nsS at h
  unfold plainS teethS
  simp only [Msh.mk.injEq, decide_eq_true_eq, true_and]
  simp only [teethS, decide_eq_true_eq] at h
  repeat' split at h
  all_goals
    refine ⟨?_, ?_, ?_, ?_⟩ <;> split <;> omega

set_option maxRecDepth 100000 in
set_option maxHeartbeats 2000000 in
theorem valid_ref (x : Msh) (cnt : Int) (w : World) (h1 : 1 ≤ cnt) (h8 : cnt ≤ 8) :
    Calls Try.prog 90 #[x.val, .int .i64 cnt] w fun e w' => e = .returned (.bool (validB x cnt)) ∧ Ext w w' := by
  have hv : ∀ r : Bool, (r = true ↔ validP x cnt) → r = validB x cnt := fun r h => validB_eq h
  obtain ⟨M, hM⟩ : ∃ M : Nat, cnt = (M : Int) + 1 := ⟨(cnt - 1).toNat, by omega⟩
  have e1 : IntKind.i64.wrap (cnt - 1) = (M : Int) := by rw [IntKind.wrap_i64]; omega
  have HM := Lib.hid hM
  clear hM
  have cp := fun w' => plain_any x w'
  have hn := neq_msh x (plainS x)
  have hpl : validP x cnt → x = plainS x := plain_ok
  generalize validB x cnt = res at *
  by_cases hk : 1 ≤ x.kind ∧ x.kind ≤ 7
  · cases hd : decide (x = plainS x)
    · rw [hd] at hn
      have hres : false = res := hv false ⟨fun e => by simp at e, fun e => by rw [decide_eq_false_iff_not] at hd; exact absurd (hpl e) hd⟩
      generalize plainS x = y at *
      obtain ⟨kind, a, b, c, n, m⟩ := x
      obtain ⟨kind2, a2, b2, c2, n2, m2⟩ := y
      simp only [Msh.val] at *
      have Cp := Lib.hid cp
      have Hres := Lib.hid hres
      have k1 : decide (kind < 1) = false := by simp; omega
      have k2 : decide (7 < kind) = false := by simp; omega
      clear hd hpl hv hres cp hk
      go_enter Try.func90, Try.ntmps90
      go_wp2
      have hp0 : ∀ w', Ext (w.alloc (.cells #[.int .u8 kind, vint a, vint b, vint c, vint n, vint m] 57)) w' → w'.cell? ⟨w.heap.size, 0, none⟩ = some (.int .u8 kind) := fun w' he => he.cell (by simp)
      have hp1 : ∀ w', Ext (w.alloc (.cells #[.int .u8 kind, vint a, vint b, vint c, vint n, vint m] 57)) w' → w'.cell? ⟨w.heap.size, 1, none⟩ = some (vint a) := fun w' he => he.cell (by simp)
      have hp2 : ∀ w', Ext (w.alloc (.cells #[.int .u8 kind, vint a, vint b, vint c, vint n, vint m] 57)) w' → w'.cell? ⟨w.heap.size, 2, none⟩ = some (vint b) := fun w' he => he.cell (by simp)
      have hp3 : ∀ w', Ext (w.alloc (.cells #[.int .u8 kind, vint a, vint b, vint c, vint n, vint m] 57)) w' → w'.cell? ⟨w.heap.size, 3, none⟩ = some (vint c) := fun w' he => he.cell (by simp)
      have hp4 : ∀ w', Ext (w.alloc (.cells #[.int .u8 kind, vint a, vint b, vint c, vint n, vint m] 57)) w' → w'.cell? ⟨w.heap.size, 4, none⟩ = some (vint n) := fun w' he => he.cell (by simp)
      have hp5 : ∀ w', Ext (w.alloc (.cells #[.int .u8 kind, vint a, vint b, vint c, vint n, vint m] 57)) w' → w'.cell? ⟨w.heap.size, 5, none⟩ = some (vint m) := fun w' he => he.cell (by simp)
      refine wp_region_calm 22 (fun _ _ v _ => v = .agg #[.int .u8 kind2, vint a2, vint b2, vint c2, vint n2, vint m2]) (fun _ _ _ _ _ _ h => h) (by kernel_rfl) (by kernel_rfl) ?_
      simp only [List.take_succ_cons, List.take_zero, List.drop_succ_cons, List.drop_zero]
      refine calm_quiet calm_mono_final 11 (by kernel_rfl) ?_
      simp only [List.take_succ_cons, List.take_zero, List.drop_succ_cons, List.drop_zero]
      repeat (go_big_quiet_step (fail))
      refine wpQuiet_nil ?_
      refine calm_call calm_mono_final 104 #[.agg #[.int .u8 kind, vint a, vint b, vint c, vint n, vint m]] rfl (fun w => ?_) (fun w he _ => ?_) ?_
      · go_simp
      · exact (Cp.out _).mono fun e w'' ⟨he', hx⟩ => ⟨_, he', hx, rfl⟩
      rintro _ _ _ rfl
      simp only [Act.put, List.setIfInBounds_toArray, List.set_cons_succ, List.set_cons_zero]
      refine calm_quiet calm_mono_final 7 (by kernel_rfl) ?_
      simp only [List.take_succ_cons, List.take_zero, List.drop_succ_cons, List.drop_zero]
      repeat (go_big_quiet_step (fail))
      refine wpQuiet_nil ?_
      refine calm_skip (by kernel_rfl) ?_
      simp only [Act.put, List.setIfInBounds_toArray, List.set_cons_succ, List.set_cons_zero]
      refine calm_quiet calm_mono_final 2 (by kernel_rfl) ?_
      simp only [List.take_succ_cons, List.take_zero, List.drop_succ_cons, List.drop_zero]
      repeat (go_big_quiet_step (fail))
      refine wpQuiet_nil ?_
      refine calm_nil fun w3 he3 _ => ?_
      go_wp2
      go_ret
      exact ⟨ret_b Hres.out, Ext.trans (by simp) he3⟩
    · have heq : x = plainS x := of_decide_eq_true hd
      rw [hd] at hn
      have heq' := heq
      generalize plainS x = y at hn cp
      obtain ⟨kind, a, b, c, n, m⟩ := x
      obtain ⟨kind2, a2, b2, c2, n2, m2⟩ := y
      simp only [Bool.not_true] at hn
      simp only [plainS, Msh.mk.injEq, true_and] at heq'
      have Heq := Lib.hid heq'
      simp only [Msh.val] at *
      have Cp := Lib.hid cp
      have Hv := Lib.hid hv
      have k1 : decide (kind < 1) = false := by simp; omega
      have k2 : decide (7 < kind) = false := by simp; omega
      have hw : ∀ y, withinB y 0 (M : Int) = decide (inR y cnt) := fun y => by
        have hM := HM.out
        cases h : withinB y 0 (M : Int)
        · have := withinB_false.1 h
          exact (decide_eq_false fun h2 => this (by unfold inR at h2; omega)).symm
        · have := withinB_true.1 h
          exact (decide_eq_true (by unfold inR; omega)).symm
      have Hw := Lib.hid hw
      clear hd hpl hv cp heq heq' hw
      go_enter Try.func90, Try.ntmps90
      cases ha : withinB a 0 (M : Int)
      · go_wp2
        have hp0 : ∀ w', Ext (w.alloc (.cells #[.int .u8 kind, vint a, vint b, vint c, vint n, vint m] 57)) w' → w'.cell? ⟨w.heap.size, 0, none⟩ = some (.int .u8 kind) := fun w' he => he.cell (by simp)
        have hp1 : ∀ w', Ext (w.alloc (.cells #[.int .u8 kind, vint a, vint b, vint c, vint n, vint m] 57)) w' → w'.cell? ⟨w.heap.size, 1, none⟩ = some (vint a) := fun w' he => he.cell (by simp)
        have hp2 : ∀ w', Ext (w.alloc (.cells #[.int .u8 kind, vint a, vint b, vint c, vint n, vint m] 57)) w' → w'.cell? ⟨w.heap.size, 2, none⟩ = some (vint b) := fun w' he => he.cell (by simp)
        have hp3 : ∀ w', Ext (w.alloc (.cells #[.int .u8 kind, vint a, vint b, vint c, vint n, vint m] 57)) w' → w'.cell? ⟨w.heap.size, 3, none⟩ = some (vint c) := fun w' he => he.cell (by simp)
        have hp4 : ∀ w', Ext (w.alloc (.cells #[.int .u8 kind, vint a, vint b, vint c, vint n, vint m] 57)) w' → w'.cell? ⟨w.heap.size, 4, none⟩ = some (vint n) := fun w' he => he.cell (by simp)
        have hp5 : ∀ w', Ext (w.alloc (.cells #[.int .u8 kind, vint a, vint b, vint c, vint n, vint m] 57)) w' → w'.cell? ⟨w.heap.size, 5, none⟩ = some (vint m) := fun w' he => he.cell (by simp)
        refine wp_region_calm 22 (fun j _ v _ => v = pickV 11 (.agg #[.int .u8 kind2, vint a2, vint b2, vint c2, vint n2, vint m2]) (.bool false) j) (fun _ _ _ _ _ _ h => h) (by kernel_rfl) (by kernel_rfl) ?_
        simp only [List.take_succ_cons, List.take_zero, List.drop_succ_cons, List.drop_zero]
        refine calm_quiet calm_mono_final 11 (by kernel_rfl) ?_
        simp only [List.take_succ_cons, List.take_zero, List.drop_succ_cons, List.drop_zero]
        repeat (go_big_quiet_step (fail))
        refine wpQuiet_nil ?_
        refine calm_call calm_mono_final 104 #[.agg #[.int .u8 kind, vint a, vint b, vint c, vint n, vint m]] rfl (fun w => ?_) (fun w he _ => ?_) ?_
        · go_simp
        · exact (Cp.out _).mono fun e w'' ⟨he', hx⟩ => ⟨_, he', hx, rfl⟩
        intro v1 _ _ hv1
        have hv1' : v1 = .agg #[.int .u8 kind2, vint a2, vint b2, vint c2, vint n2, vint m2] := hv1
        subst hv1'
        clear hv1
        simp only [Act.put, List.setIfInBounds_toArray, List.set_cons_succ, List.set_cons_zero]
        refine calm_quiet calm_mono_final 7 (by kernel_rfl) ?_
        simp only [List.take_succ_cons, List.take_zero, List.drop_succ_cons, List.drop_zero]
        repeat (go_big_quiet_step (fail))
        refine wpQuiet_nil ?_
        refine calm_call calm_mono_final 54 #[vint a, .int .i64 0, .int .i64 (M : Int)] rfl (fun w => ?_) (fun w he _ => ?_) ?_
        · go_simp
        · exact (within_any _ _ _ _).mono fun e w'' ⟨he', hx⟩ => ⟨_, he', by rw [hx]; exact Ext.refl _, by rw [ha]; rfl⟩
        intro v2 _ _ hv2
        have hv2' : v2 = .bool false := hv2
        subst hv2'
        clear hv2
        simp only [Act.put, List.setIfInBounds_toArray, List.set_cons_succ, List.set_cons_zero]
        refine calm_quiet calm_mono_final 2 (by kernel_rfl) ?_
        simp only [List.take_succ_cons, List.take_zero, List.drop_succ_cons, List.drop_zero]
        repeat (go_big_quiet_step (fail))
        refine wpQuiet_nil ?_
        refine calm_nil fun w3 he3 _ => ?_
        go_wp2
        go_ret
        rw [Hw.out] at ha
        exact ⟨ret_b (Hv.out false ⟨fun e => by simp at e, fun e => absurd e.2.1 (of_decide_eq_false ha)⟩), Ext.trans (by simp) he3⟩
      · go_wp2
        have hp0 : ∀ w', Ext (w.alloc (.cells #[.int .u8 kind, vint a, vint b, vint c, vint n, vint m] 57)) w' → w'.cell? ⟨w.heap.size, 0, none⟩ = some (.int .u8 kind) := fun w' he => he.cell (by simp)
        have hp1 : ∀ w', Ext (w.alloc (.cells #[.int .u8 kind, vint a, vint b, vint c, vint n, vint m] 57)) w' → w'.cell? ⟨w.heap.size, 1, none⟩ = some (vint a) := fun w' he => he.cell (by simp)
        have hp2 : ∀ w', Ext (w.alloc (.cells #[.int .u8 kind, vint a, vint b, vint c, vint n, vint m] 57)) w' → w'.cell? ⟨w.heap.size, 2, none⟩ = some (vint b) := fun w' he => he.cell (by simp)
        have hp3 : ∀ w', Ext (w.alloc (.cells #[.int .u8 kind, vint a, vint b, vint c, vint n, vint m] 57)) w' → w'.cell? ⟨w.heap.size, 3, none⟩ = some (vint c) := fun w' he => he.cell (by simp)
        have hp4 : ∀ w', Ext (w.alloc (.cells #[.int .u8 kind, vint a, vint b, vint c, vint n, vint m] 57)) w' → w'.cell? ⟨w.heap.size, 4, none⟩ = some (vint n) := fun w' he => he.cell (by simp)
        have hp5 : ∀ w', Ext (w.alloc (.cells #[.int .u8 kind, vint a, vint b, vint c, vint n, vint m] 57)) w' → w'.cell? ⟨w.heap.size, 5, none⟩ = some (vint m) := fun w' he => he.cell (by simp)
        refine wp_region_calm 22 (fun j _ v _ => v = pickV 11 (.agg #[.int .u8 kind2, vint a2, vint b2, vint c2, vint n2, vint m2]) (.bool true) j) (fun _ _ _ _ _ _ h => h) (by kernel_rfl) (by kernel_rfl) ?_
        simp only [List.take_succ_cons, List.take_zero, List.drop_succ_cons, List.drop_zero]
        refine calm_quiet calm_mono_final 11 (by kernel_rfl) ?_
        simp only [List.take_succ_cons, List.take_zero, List.drop_succ_cons, List.drop_zero]
        repeat (go_big_quiet_step (fail))
        refine wpQuiet_nil ?_
        refine calm_call calm_mono_final 104 #[.agg #[.int .u8 kind, vint a, vint b, vint c, vint n, vint m]] rfl (fun w => ?_) (fun w he _ => ?_) ?_
        · go_simp
        · exact (Cp.out _).mono fun e w'' ⟨he', hx⟩ => ⟨_, he', hx, rfl⟩
        intro v1 _ _ hv1
        have hv1' : v1 = .agg #[.int .u8 kind2, vint a2, vint b2, vint c2, vint n2, vint m2] := hv1
        subst hv1'
        clear hv1
        simp only [Act.put, List.setIfInBounds_toArray, List.set_cons_succ, List.set_cons_zero]
        refine calm_quiet calm_mono_final 7 (by kernel_rfl) ?_
        simp only [List.take_succ_cons, List.take_zero, List.drop_succ_cons, List.drop_zero]
        repeat (go_big_quiet_step (fail))
        refine wpQuiet_nil ?_
        refine calm_call calm_mono_final 54 #[vint a, .int .i64 0, .int .i64 (M : Int)] rfl (fun w => ?_) (fun w he _ => ?_) ?_
        · go_simp
        · exact (within_any _ _ _ _).mono fun e w'' ⟨he', hx⟩ => ⟨_, he', by rw [hx]; exact Ext.refl _, by rw [ha]; rfl⟩
        intro v2 _ _ hv2
        have hv2' : v2 = .bool true := hv2
        subst hv2'
        clear hv2
        simp only [Act.put, List.setIfInBounds_toArray, List.set_cons_succ, List.set_cons_zero]
        refine calm_quiet calm_mono_final 2 (by kernel_rfl) ?_
        simp only [List.take_succ_cons, List.take_zero, List.drop_succ_cons, List.drop_zero]
        repeat (go_big_quiet_step (fail))
        refine wpQuiet_nil ?_
        refine calm_nil fun w3 he3 hF => ?_
        clear hF
        have hq0 := hp0 w3 he3
        have hq1 := hp1 w3 he3
        have hq2 := hp2 w3 he3
        have hq3 := hp3 w3 he3
        have hq4 := hp4 w3 he3
        have hq5 := hp5 w3 he3
        clear hp0 hp1 hp2 hp3 hp4 hp5 k1 k2 hn e1
        rw [Hw.out] at ha
        have ha' : inR a cnt := of_decide_eq_true ha
        have Ha := Lib.hid ha'
        have e1 : IntKind.i64.wrap (cnt - 1) = (M : Int) := by have := HM.out; rw [IntKind.wrap_i64]; omega
        have hx : Ext w w3 := Ext.trans (by simp) he3
        clear ha ha' Hw Cp
        rcases (by omega : kind = 1 ∨ kind = 2 ∨ kind = 3 ∨ kind = 4 ∨ kind = 5 ∨ kind = 6 ∨ kind = 7) with rfl | rfl | rfl | rfl | rfl | rfl | rfl
        all_goals
          have hv := Hv.out
          simp only [validP, nsS, teethS, inR] at hv
          have Hv1 := Lib.hid hv
          clear hv Hv hk
          go_wp2
        all_goals
          go_ret
          have heq := Heq.out
          have hM := HM.out
          have ha := Ha.out
          unfold inR at ha
          simp [teethS] at heq
          refine ⟨ret_b (Hv1.out _ ?_), hx⟩
          simp
          try simp only [beq_iff_eq, beq_eq_false_iff_ne, ne_eq] at *
          omega
  · have hres : false = res := hv false ⟨fun e => by simp at e, fun e => absurd (nsS_kind e.1) hk⟩
    obtain ⟨kind, a, b, c, n, m⟩ := x
    simp only [Msh.val] at *
    have Hres := Lib.hid hres
    clear hpl hv hres cp hn e1 HM
    cases k1 : decide (kind < 1)
    · have k2 : decide (7 < kind) = true := by simp at k1 ⊢; omega
      clear hk
      go_enter Try.func90, Try.ntmps90
      go_wp2
      have hp0 : ∀ w', Ext (w.alloc (.cells #[.int .u8 kind, vint a, vint b, vint c, vint n, vint m] 57)) w' → w'.cell? ⟨w.heap.size, 0, none⟩ = some (.int .u8 kind) := fun w' he => he.cell (by simp)
      have hp1 : ∀ w', Ext (w.alloc (.cells #[.int .u8 kind, vint a, vint b, vint c, vint n, vint m] 57)) w' → w'.cell? ⟨w.heap.size, 1, none⟩ = some (vint a) := fun w' he => he.cell (by simp)
      have hp2 : ∀ w', Ext (w.alloc (.cells #[.int .u8 kind, vint a, vint b, vint c, vint n, vint m] 57)) w' → w'.cell? ⟨w.heap.size, 2, none⟩ = some (vint b) := fun w' he => he.cell (by simp)
      have hp3 : ∀ w', Ext (w.alloc (.cells #[.int .u8 kind, vint a, vint b, vint c, vint n, vint m] 57)) w' → w'.cell? ⟨w.heap.size, 3, none⟩ = some (vint c) := fun w' he => he.cell (by simp)
      have hp4 : ∀ w', Ext (w.alloc (.cells #[.int .u8 kind, vint a, vint b, vint c, vint n, vint m] 57)) w' → w'.cell? ⟨w.heap.size, 4, none⟩ = some (vint n) := fun w' he => he.cell (by simp)
      have hp5 : ∀ w', Ext (w.alloc (.cells #[.int .u8 kind, vint a, vint b, vint c, vint n, vint m] 57)) w' → w'.cell? ⟨w.heap.size, 5, none⟩ = some (vint m) := fun w' he => he.cell (by simp)
      refine wp_region_calm 22 (fun _ _ v _ => v = .bool true) (fun _ _ _ _ _ _ h => h) (by kernel_rfl) (by kernel_rfl) ?_
      simp only [List.take_succ_cons, List.take_zero, List.drop_succ_cons, List.drop_zero]
      refine calm_quiet calm_mono_final 11 (by kernel_rfl) ?_
      simp only [List.take_succ_cons, List.take_zero, List.drop_succ_cons, List.drop_zero]
      repeat (go_big_quiet_step (fail))
      refine wpQuiet_nil ?_
      refine calm_skip (by kernel_rfl) ?_
      simp only [Act.put, List.setIfInBounds_toArray, List.set_cons_succ, List.set_cons_zero]
      refine calm_quiet calm_mono_final 7 (by kernel_rfl) ?_
      simp only [List.take_succ_cons, List.take_zero, List.drop_succ_cons, List.drop_zero]
      repeat (go_big_quiet_step (fail))
      refine wpQuiet_nil ?_
      refine calm_skip (by kernel_rfl) ?_
      simp only [Act.put, List.setIfInBounds_toArray, List.set_cons_succ, List.set_cons_zero]
      refine calm_quiet calm_mono_final 2 (by kernel_rfl) ?_
      simp only [List.take_succ_cons, List.take_zero, List.drop_succ_cons, List.drop_zero]
      repeat (go_big_quiet_step (fail))
      refine wpQuiet_nil ?_
      refine calm_nil fun w3 he3 _ => ?_
      go_wp2
      go_ret
      exact ⟨ret_b Hres.out, Ext.trans (by simp) he3⟩
    · clear hk
      go_enter Try.func90, Try.ntmps90
      go_wp2
      have hp0 : ∀ w', Ext (w.alloc (.cells #[.int .u8 kind, vint a, vint b, vint c, vint n, vint m] 57)) w' → w'.cell? ⟨w.heap.size, 0, none⟩ = some (.int .u8 kind) := fun w' he => he.cell (by simp)
      have hp1 : ∀ w', Ext (w.alloc (.cells #[.int .u8 kind, vint a, vint b, vint c, vint n, vint m] 57)) w' → w'.cell? ⟨w.heap.size, 1, none⟩ = some (vint a) := fun w' he => he.cell (by simp)
      have hp2 : ∀ w', Ext (w.alloc (.cells #[.int .u8 kind, vint a, vint b, vint c, vint n, vint m] 57)) w' → w'.cell? ⟨w.heap.size, 2, none⟩ = some (vint b) := fun w' he => he.cell (by simp)
      have hp3 : ∀ w', Ext (w.alloc (.cells #[.int .u8 kind, vint a, vint b, vint c, vint n, vint m] 57)) w' → w'.cell? ⟨w.heap.size, 3, none⟩ = some (vint c) := fun w' he => he.cell (by simp)
      have hp4 : ∀ w', Ext (w.alloc (.cells #[.int .u8 kind, vint a, vint b, vint c, vint n, vint m] 57)) w' → w'.cell? ⟨w.heap.size, 4, none⟩ = some (vint n) := fun w' he => he.cell (by simp)
      have hp5 : ∀ w', Ext (w.alloc (.cells #[.int .u8 kind, vint a, vint b, vint c, vint n, vint m] 57)) w' → w'.cell? ⟨w.heap.size, 5, none⟩ = some (vint m) := fun w' he => he.cell (by simp)
      refine wp_region_calm 22 (fun _ _ v _ => v = .bool true) (fun _ _ _ _ _ _ h => h) (by kernel_rfl) (by kernel_rfl) ?_
      simp only [List.take_succ_cons, List.take_zero, List.drop_succ_cons, List.drop_zero]
      refine calm_quiet calm_mono_final 11 (by kernel_rfl) ?_
      simp only [List.take_succ_cons, List.take_zero, List.drop_succ_cons, List.drop_zero]
      repeat (go_big_quiet_step (fail))
      refine wpQuiet_nil ?_
      refine calm_skip (by kernel_rfl) ?_
      simp only [Act.put, List.setIfInBounds_toArray, List.set_cons_succ, List.set_cons_zero]
      refine calm_quiet calm_mono_final 7 (by kernel_rfl) ?_
      simp only [List.take_succ_cons, List.take_zero, List.drop_succ_cons, List.drop_zero]
      repeat (go_big_quiet_step (fail))
      refine wpQuiet_nil ?_
      refine calm_skip (by kernel_rfl) ?_
      simp only [Act.put, List.setIfInBounds_toArray, List.set_cons_succ, List.set_cons_zero]
      refine calm_quiet calm_mono_final 2 (by kernel_rfl) ?_
      simp only [List.take_succ_cons, List.take_zero, List.drop_succ_cons, List.drop_zero]
      repeat (go_big_quiet_step (fail))
      refine wpQuiet_nil ?_
      refine calm_nil fun w3 he3 _ => ?_
      go_wp2
      go_ret
      exact ⟨ret_b Hres.out, Ext.trans (by simp) he3⟩
end Go.Proofs.Ytbclbcldplmppaa

/- Trains in memory; a train is valid, by the code and by the reference. -/
namespace Go.Proofs.Ytbclbcldplmppaa
open Go.RowKit

def MRow (w : World) (A : Option Addr) (ms : List Msh) : Prop := Row w A (ms.map Msh.cells).flatten
theorem MRow.ext {w w' : World} {A : Option Addr} {ms : List Msh} (h : MRow w A ms) (he : Ext w w') : MRow w' A ms := Row.ext h he

theorem MRow.at_ {w : World} {A : Option Addr} {ms : List Msh} (h : MRow w A ms) {k : Nat} (hk : k < ms.length) :
    ∃ ad, A = some ad ∧ (∀ w', Ext w w' → w'.cell? (ad.add (k * 6)) = some (.int .u8 ms[k].kind)) ∧
      (∀ w', Ext w w' → w'.cell? ⟨(ad.add (k * 6)).block, (ad.add (k * 6)).off + 1, none⟩ = some (.int .i64 ms[k].a)) ∧
      (∀ w', Ext w w' → w'.cell? ⟨(ad.add (k * 6)).block, (ad.add (k * 6)).off + 2, none⟩ = some (.int .i64 ms[k].b)) ∧
      (∀ w', Ext w w' → w'.cell? ⟨(ad.add (k * 6)).block, (ad.add (k * 6)).off + 3, none⟩ = some (.int .i64 ms[k].c)) ∧
      (∀ w', Ext w w' → w'.cell? ⟨(ad.add (k * 6)).block, (ad.add (k * 6)).off + 4, none⟩ = some (.int .i64 ms[k].n)) ∧
      (∀ w', Ext w w' → w'.cell? ⟨(ad.add (k * 6)).block, (ad.add (k * 6)).off + 5, none⟩ = some (.int .i64 ms[k].m)) := by
  obtain ⟨ad, ha, hc⟩ := Row.struct (size := 6) h (by simp [Msh.cells]) (k := k) (by simpa using hk) (by omega)
  refine ⟨ad, ha, fun w' he => ?_, fun w' he => ?_, fun w' he => ?_, fun w' he => ?_, fun w' he => ?_, fun w' he => ?_⟩
  · have := hc 0 (by omega) w' he
    rw [add_zero_] at this
    simpa [Msh.cells] using this
  · have := hc 1 (by omega) w' he
    rw [add_lit _ _ (by omega)] at this
    simpa [Msh.cells] using this
  · have := hc 2 (by omega) w' he
    rw [add_lit _ _ (by omega)] at this
    simpa [Msh.cells] using this
  · have := hc 3 (by omega) w' he
    rw [add_lit _ _ (by omega)] at this
    simpa [Msh.cells] using this
  · have := hc 4 (by omega) w' he
    rw [add_lit _ _ (by omega)] at this
    simpa [Msh.cells] using this
  · have := hc 5 (by omega) w' he
    rw [add_lit _ _ (by omega)] at this
    simpa [Msh.cells] using this

/-- A train: the number of shafts, the meshes. -/
def trainP (s : Int) (ms : List Msh) : Prop := 1 ≤ s ∧ s ≤ 8 ∧ ms.length ≤ 16 ∧ ∀ k (hk : k < ms.length), validB ms[k] s = true
instance (s : Int) (ms : List Msh) : Decidable (trainP s ms) := by unfold trainP; infer_instance
def trainB (s : Int) (ms : List Msh) : Bool := decide (trainP s ms)
def trainE (s : Int) (ms : List Msh) : Int := if trainB s ms = true then 0 else 40

theorem trainE_good {s : Int} {ms : List Msh} (h : 1 ≤ s ∧ s ≤ 8 ∧ ms.length ≤ 16) (h' : ∀ k (hk : k < ms.length), validB ms[k] s = true) : 0 = trainE s ms :=
  (if_pos (decide_eq_true (⟨h.1, h.2.1, h.2.2, h'⟩ : trainP s ms))).symm
theorem trainE_bad {s : Int} {ms : List Msh} (h : ¬ (1 ≤ s ∧ s ≤ 8 ∧ ms.length ≤ 16)) : 40 = trainE s ms :=
  (if_neg (fun h' => h (by have := of_decide_eq_true h'; exact ⟨this.1, this.2.1, this.2.2.1⟩))).symm
theorem trainE_bad2 {s : Int} {ms : List Msh} {k : Nat} (hk : k < ms.length) (h : validB ms[k] s = false) : 40 = trainE s ms :=
  (if_neg (fun h' => by have := (of_decide_eq_true h').2.2.2 k hk; rw [h] at this; cases this)).symm

set_option maxRecDepth 100000 in
set_option maxHeartbeats 1000000 in
theorem check_any (A : Option Addr) (c : Nat) (s : Int) (ms : List Msh) (w : World) (hA : MRow w A ms) (hl : ms.length ≤ 1000000) :
    Calls Try.prog 24 #[.agg #[.int .i64 s, .slice A ms.length c]] w fun e w' => e = .returned (.int .i64 (trainE s ms)) ∧ Ext w w' := by
  have ha := fun k (hk : k < ms.length) => hA.at_ hk
  have cv := fun (x : Msh) (w' : World) => valid_any x s w'
  have hgood := trainE_good (s := s) (ms := ms)
  have hbad := trainE_bad (s := s) (ms := ms)
  have hbad2 := fun k (hk : k < ms.length) => trainE_bad2 (s := s) hk
  have Ha := Lib.hid ha
  have Cv := Lib.hid cv
  have Hgood := Lib.hid hgood
  have Hbad := Lib.hid hbad
  have Hbad2 := Lib.hid hbad2
  clear ha cv hgood hbad hbad2 hA
  generalize trainE s ms = res at *
  obtain ⟨m, hm⟩ : ∃ m, m = ms.length := ⟨_, rfl⟩
  rw [← hm]
  rw [← hm] at hl
  by_cases h : 1 ≤ s ∧ s ≤ 8 ∧ m ≤ 16
  · have Hm := Lib.hid hm
    have Hh := Lib.hid h
    obtain ⟨h1, h8, hm16⟩ := h
    clear hm
    go_enter Try.func24, Try.ntmps24
    go_wp2
    have hp0 : ∀ w', Ext (w.alloc (.cells #[.int .i64 s, .slice A m c] 41)) w' → w'.cell? ⟨w.heap.size, 0, none⟩ = some (.int .i64 s) := fun w' he => he.cell (by simp)
    have hp1 : ∀ w', Ext (w.alloc (.cells #[.int .i64 s, .slice A m c] 41)) w' → w'.cell? ⟨w.heap.size, 1, none⟩ = some (.slice A m c) := fun w' he => he.cell (by simp)
    have hex0 : Ext w (w.alloc (.cells #[.int .i64 s, .slice A m c] 41)) := by simp
    generalize hw0 : w.alloc (.cells #[.int .i64 s, .slice A m c] 41) = w0 at *
    have Hp0 := Lib.hid hp0
    have Hex0 := Lib.hid hex0
    clear hp0 hp1 hex0 hw0
    go_loopw [22] (fun i wr => ∃ k : Nat, k ≤ m ∧ i = .int .i64 k ∧ Ext w0 wr ∧ ∀ j (hj : j < ms.length), j < k → validB ms[j] s = true) (fun i _ => m - (intOf i).toNat)
    case atStart => exact ⟨0, by omega, rfl, Ext.refl _, fun j _ hj => by omega⟩
    case round =>
      obtain ⟨k, hk, rfl, hex, hall⟩ := hrel
      have Hall := Lib.hid hall
      clear hall
      by_cases hlt : k < m
      · have hkp : k < ms.length := by rw [← Hm.out]; exact hlt
        obtain ⟨ad, rfl, q0, q1, q2, q3, q4, q5⟩ := Ha.out k hkp
        have hp0 : ∀ w', Ext wr w' → w'.cell? ⟨w.heap.size, 0, none⟩ = some (.int .i64 s) := fun w' he => Hp0.out w' (hex.trans he)
        have hexw := Hex0.out.trans hex
        have q0 := q0 wr hexw
        have q1 := q1 wr hexw
        have q2 := q2 wr hexw
        have q3 := q3 wr hexw
        have q4 := q4 wr hexw
        have q5 := q5 wr hexw
        have cv := Cv.out ms[k]
        have hbad2 := Hbad2.out k hkp
        have hstep : validB ms[k] s = true → ∀ j (hj : j < ms.length), j < k + 1 → validB ms[j] s = true := fun h j hj hjk => by
          by_cases e : j = k
          · subst e; exact h
          · exact Hall.out j hj (by omega)
        simp only [Msh.val] at cv
        have Cv' := Lib.hid cv
        have Hst := Lib.hid hstep
        have Hb := Lib.hid hbad2
        clear hstep cv hbad2
        generalize validB ms[k] s = vb at *
        generalize ms[k] = x at *
        obtain ⟨kind, a, b, c3, n, m3⟩ := x
        simp only at *
        cases vb
        · go_wp2_with (go_at_call 64; refine (Cv'.out _).mono ?_; rintro e w' ⟨rfl, hx⟩)
          go_ret
          exact ⟨ret_i (Hb.out trivial), hexw.trans (Ext.trans (by simp) hx)⟩
        · go_wp2_with (go_at_call 64; refine (Cv'.out _).mono ?_; rintro e w' ⟨rfl, hx⟩)
          go_roundw
          case rel => exact ⟨k + 1, by omega, by go_num, hex.trans (Ext.trans (by simp) hx), Hst.out trivial⟩
          case measure => simp [intOf]; omega
      · go_wp2
        go_ret
        have hm := Hm.out
        exact ⟨ret_i (Hgood.out (by rw [← hm]; exact Hh.out) (fun j hj => Hall.out j hj (by omega))), Hex0.out.trans hex⟩
  · rw [hm] at h
    have hb := Hbad.out h
    have Hb := Lib.hid hb
    clear hb
    rw [← hm] at h
    clear hm
    go_enter Try.func24, Try.ntmps24
    go_wp2
    · go_ret
      exact ⟨ret_i Hb.out, by simp⟩
    · go_ret
      exact ⟨ret_i Hb.out, by simp⟩
    · go_ret
      exact ⟨ret_i Hb.out, by simp⟩
end Go.Proofs.Ytbclbcldplmppaa

/- Arguments of the laws, opened: trains, lists of numbers. -/
namespace Go.Proofs.Ytbclbcldplmppaa
open Go.ChangeShapes Go.WideShapes Go.ChangeAt Go.RowKit Go.Deep

section
variable {H : Type} {enc : TypeId × Value → H} {w : World} {base : Nat} {held : Bool}

theorem u8_of {n : Nat} {v : Value} {y : DataW H × List MemPlace} (h : DataW.trod enc Try.prog w base (fun _ => true) held n 5 [v] = some y) : ∃ x, v = .int .u8 x := by
  obtain ⟨x, hv, _, _⟩ := DataW.trod_int Try.underlying5 h
  simp at hv
  exact ⟨x, hv⟩

theorem meshes_of {n : Nat} {v : Value} {y : DataW H × List MemPlace} (h : DataW.trod enc Try.prog w base (fun _ => true) held n 39 [v] = some y) :
    ∃ (A : Option Addr) (c : Nat) (ms : List Msh), v = .slice A ms.length c ∧ MRow w A ms := by
  rcases open_slice_fields Try.underlying39 Try.underlying57 (by kernel_rfl) (by kernel_rfl) h with ⟨hcs, _⟩ | ⟨a, len, cap, hcs, hl, hm, hi⟩
  · simp at hcs
    subst hcs
    exact ⟨none, 0, [], rfl, Row.nil _ _⟩
  · simp at hcs
    subst hcs
    have each : ∀ i : Nat, i < len → ∃ q : Msh, ∀ j, j < 6 → w.cell? (a.add (i * 6 + j)) = q.cells[j]? := fun i hil => by
      obtain ⟨n, hn⟩ := hi i hil
      obtain ⟨v0, y0, c0, h0⟩ := hn 0 _ rfl
      obtain ⟨v1, y1, c1, h1⟩ := hn 1 _ rfl
      obtain ⟨v2, y2, c2, h2⟩ := hn 2 _ rfl
      obtain ⟨v3, y3, c3, h3⟩ := hn 3 _ rfl
      obtain ⟨v4, y4, c4, h4⟩ := hn 4 _ rfl
      obtain ⟨v5, y5, c5, h5⟩ := hn 5 _ rfl
      obtain ⟨x0, rfl⟩ := u8_of h0
      obtain ⟨x1, rfl, _⟩ := int_of h1
      obtain ⟨x2, rfl, _⟩ := int_of h2
      obtain ⟨x3, rfl, _⟩ := int_of h3
      obtain ⟨x4, rfl, _⟩ := int_of h4
      obtain ⟨x5, rfl, _⟩ := int_of h5
      refine ⟨⟨x0, x1, x2, x3, x4, x5⟩, fun j hj => ?_⟩
      match j, hj with
      | 0, _ => exact c0
      | 1, _ => exact c1
      | 2, _ => exact c2
      | 3, _ => exact c3
      | 4, _ => exact c4
      | 5, _ => exact c5
    have pick : ∀ m, m ≤ len → ∃ ps : List Msh, ps.length = m ∧ ∀ i (hi : i < ps.length), ∀ j, j < 6 → w.cell? (a.add (i * 6 + j)) = (ps[i].cells)[j]? := by
      intro m
      induction m with
      | zero => exact fun _ => ⟨[], rfl, fun i hi => by simp at hi⟩
      | succ m ih =>
        intro hm'
        obtain ⟨ps, hl, hps⟩ := ih (by omega)
        obtain ⟨q, hq⟩ := each m (by omega)
        refine ⟨ps ++ [q], by simp [hl], fun i hi => ?_⟩
        by_cases e : i < ps.length
        · rw [List.getElem_append_left e]; exact hps i e
        · have : i = ps.length := by simp at hi; omega
          subst this
          simp
          rw [hl]
          exact hq
    obtain ⟨ps, hlen, hps⟩ := pick len (Nat.le_refl _)
    refine ⟨some a, cap, ps, by rw [hlen], fun k hk => ⟨a, rfl, ?_⟩⟩
    have hs : ∀ r ∈ ps.map Msh.cells, r.length = 6 := by simp [Msh.cells]
    have hfl := flatten_len 6 _ hs
    have hk1 : k / 6 < ps.length := by rw [hfl, List.length_map] at hk; omega
    have e : k = k / 6 * 6 + k % 6 := by omega
    have h3 := flatten_get 6 _ hs (k / 6) (k % 6) (by omega) (by simpa using hk1)
    rw [e, h3]
    rw [hps (k / 6) hk1 (k % 6) (by omega)]
    simp

set_option maxRecDepth 100000 in
theorem arg_train {r : Reach} {b0 : Nat} {v : Value} {d : DataW H} {p : List MemPlace} (hv : Value.okWide Try.prog w r b0 41 v) (h : DataW.Trod enc Try.prog w base (fun _ => true) held 41 v d p) :
    ∃ (A : Option Addr) (c : Nat) (s : Int) (ms : List Msh), v = .agg #[.int .i64 s, .slice A ms.length c] ∧ MRow w A ms ∧ (-9223372036854775808 ≤ s ∧ s ≤ 9223372036854775807) := by
  obtain ⟨v0, v1, y0, y1, n, rfl, _, _, h0, h1⟩ := Joins.open_agg2 Try.underlying41 (by kernel_rfl) (by kernel_rfl) hv h
  obtain ⟨s, rfl, hs⟩ := int_of h0
  obtain ⟨A, c, ms, rfl, hm⟩ := meshes_of h1
  exact ⟨A, c, s, ms, rfl, hm, i64_bounds hs⟩

set_option maxRecDepth 100000 in
theorem arg_int {v : Value} {d : DataW H} {p : List MemPlace} {r : Reach} {b0 : Nat} (hv : Value.okWide Try.prog w r b0 3 v) (h : DataW.Trod enc Try.prog w base (fun _ => true) held 3 v d p) : ∃ t, v = .int .i64 t ∧ (-9223372036854775808 ≤ t ∧ t ≤ 9223372036854775807) := by
  obtain ⟨t, e, _, _, hw⟩ := open_int Try.underlying3 hv h
  exact ⟨t, e, i64_bounds hw⟩

set_option maxRecDepth 100000 in
theorem arg_ints {v : Value} {d : DataW H} {p : List MemPlace} {r : Reach} {b0 : Nat} (hv : Value.okWide Try.prog w r b0 22 v) (h : DataW.Trod enc Try.prog w base (fun _ => true) held 22 v d p) :
    ∃ (A : Option Addr) (c : Nat) (xs : List Int), v = .slice A xs.length c ∧ Ints w A xs ∧ (∀ x ∈ xs, -9223372036854775808 ≤ x ∧ x ≤ 9223372036854775807) := by
  obtain ⟨A0, len0, cap0, rfl⟩ := okWide_slice Try.underlying22 hv
  obtain ⟨fuel, hf⟩ := h
  obtain ⟨A, c, xs, e, hi, _, hb⟩ := ints_of hf
  exact ⟨A, c, xs, e, hi, hb⟩
end
end Go.Proofs.Ytbclbcldplmppaa

/- Arguments of the laws, opened: proofs. -/
namespace Go.Proofs.Ytbclbcldplmppaa
open Go.ChangeShapes Go.WideShapes Go.ChangeAt Go.RowKit Go.Deep

section
variable {H : Type} {enc : TypeId × Value → H} {w : World} {base : Nat} {held : Bool}
set_option maxRecDepth 100000 in
theorem arg_proof {r : Reach} {b0 : Nat} {v : Value} {d : DataW H} {p : List MemPlace} (hv : Value.okWide Try.prog w r b0 60 v) (h : DataW.Trod enc Try.prog w base (fun _ => true) held 60 v d p) :
    ∃ (A1 A2 A3 : Option Addr) (c1 c2 c3 : Nat) (F M T : List Int), v = .agg #[.slice A1 F.length c1, .slice A2 M.length c2, .slice A3 T.length c3] ∧ Ints w A1 F ∧ Ints w A2 M ∧ Ints w A3 T := by
  obtain ⟨v0, v1, v2, y0, y1, y2, n, rfl, _, _, h0, h1, h2⟩ := Joins.open_agg3 Try.underlying60 (by kernel_rfl) (by kernel_rfl) hv h
  obtain ⟨A1, c1, F, rfl, hF, _⟩ := ints_of h0
  obtain ⟨A2, c2, M, rfl, hM, _⟩ := ints_of h1
  obtain ⟨A3, c3, T, rfl, hT, _⟩ := ints_of h2
  exact ⟨A1, A2, A3, c1, c2, c3, F, M, T, rfl, hF, hM, hT⟩
end
end Go.Proofs.Ytbclbcldplmppaa

/- Regions that draw their order, whose operations read, call, and write the call's own memory: as XCalm, with any kind of growth in the place of 'holds all that w holds'. No program in sight. -/
namespace Go.Proofs.Ytbclbcldplmppaa
open Go.RowKit
namespace Cw

/-- A kind of growth. -/
structure Pre where
  R : World → World → Prop
  refl : ∀ w, R w w
  trans : ∀ {a b c}, R a b → R b c → R a c
  drawn : ∀ {a w : World}, R a w → ∀ n, R a { w with drawn := n }

/-! ### The theory -/

def Sat (p : Pre) (w0 : World) (F : Fx) : Prop := ∃ w, p.R w0 w ∧ ∀ k, F k w

def calmUpon (p : Pre) (P : Program) (w : World) (Sj : Array Value → Value → World → Prop) : Result Next → Prop
  | .ok (.value _) w' => p.R w w'
  | .ok .skip w' => p.R w w'
  | .ok (.enter f args) w' => Calls P f args w' (fun e w'' => ∃ v, e = .returned v ∧ p.R w w'' ∧ Sj args v w'')
  | _ => False

def gives (p : Pre) (Sj : Array Value → Value → World → Prop) (v : Value) (w' : World) : Result Next → Prop
  | .ok (.value u) w2 => v = u ∧ p.R w2 w'
  | .ok .skip w2 => v = undef ∧ p.R w2 w'
  | .ok (.enter _ args) _ => Sj args v w'
  | _ => False

section
variable (p : Pre) (P : Program) (ops : Array Oper) (S : Spec) (w0 : World)

def Rel (x : Sem Next) (fj : World → Prop) (Sj : Array Value → Value → World → Prop) (v : Value) (w' : World) : Prop :=
  ∃ w1, p.R w0 w1 ∧ fj w1 ∧ gives p Sj v w' (x.run P w1)

def YC (j : Nat) (o : Oper) (a : Act) (F : Fx) : Prop :=
  Region.wanted o (yielded ops a.tmps) = true → ∀ w, p.R w0 w → facts ops F j w → calmUpon p P w (S j) ((execOp a.eval o).run P w)

def Cont (j : Nat) (o : Oper) (a : Act) (F : Fx) (K : Act → Fx → Prop) : Prop :=
  (Region.wanted o (yielded ops a.tmps) = true → ∀ v, Sat p w0 (F.put j (Rel p P w0 (execOp a.eval o) (facts ops F j) (S j) v)) →
    K (a.put o.dst v) (F.put j (Rel p P w0 (execOp a.eval o) (facts ops F j) (S j) v))) ∧
  (Region.wanted o (yielded ops a.tmps) = false → K (a.put o.dst undef) F)

def cOp (j : Nat) (K : Act → Fx → Prop) (a : Act) (F : Fx) : Prop :=
  ∃ o, ops[j]? = some o ∧ YC p P ops S w0 j o a F ∧ Cont p P ops S w0 j o a F K

def wpCalm (Q : Act → Fx → Prop) : List Oper → Nat → Act → Fx → Prop
  | [], _, a, F => Q a F
  | o :: rest, k, a, F => YC p P ops S w0 k o a F ∧ Cont p P ops S w0 k o a F (wpCalm Q rest (k + 1))

def wpAnyC (n : Nat) (L : Array Bool → Act → Fx → Prop) : Nat → Array Bool → Act → Fx → Prop
  | 0, listed, a, F => L listed a F
  | f + 1, listed, a, F =>
    Region.ready .any ops listed ≠ [] ∧ ∀ i ∈ Region.ready .any ops listed, i < n ∧ cOp p P ops S w0 i (wpAnyC n L f (listed.setIfInBounds i true)) a F
end

def StableF (p : Pre) (F : Fx) : Prop := ∀ k w w', p.R w w' → F k w → F k w'
def StableS (p : Pre) (S : Spec) : Prop := ∀ j args v w w', p.R w w' → S j args v w → S j args v w'

section
variable {p : Pre} {P : Program} {ops : Array Oper} {S : Spec} {w0 : World}

theorem gives_stable {Sj : Array Value → Value → World → Prop} (hS : ∀ args v w w', p.R w w' → Sj args v w → Sj args v w') {v : Value} {w w' : World} {r : Result Next} (he : p.R w w') (h : gives p Sj v w r) : gives p Sj v w' r := by
  unfold gives at *
  split at h
  · exact ⟨h.1, p.trans h.2 he⟩
  · exact ⟨h.1, p.trans h.2 he⟩
  · exact hS _ _ _ _ he h
  · exact h.elim

theorem StableF.put {F : Fx} (h : StableF p F) {i : Nat} {T : World → Prop} (hT : ∀ w w', p.R w w' → T w → T w') : StableF p (F.put i T) :=
  fun k w w' he hk => ⟨h k w w' he hk.1, fun e => hT _ _ he (hk.2 e)⟩

theorem rel_stable (hS : StableS p S) {x : Sem Next} {fj : World → Prop} {j : Nat} {v : Value} : ∀ w w', p.R w w' → Rel p P w0 x fj (S j) v w → Rel p P w0 x fj (S j) v w' :=
  fun _ _ he ⟨w1, h1, h2, h3⟩ => ⟨w1, h1, h2, gives_stable (hS j) he h3⟩

/-- From an actual world: the operation runs, and what comes out is related. -/
theorem wp_of_calm {o : Oper} {a : Act} {w : World} {j : Nat} {fj : World → Prop} {K' : Act → World → Prop} {Q' : Exit → Act → World → Prop}
    (he : p.R w0 w) (hf : fj w) (hu : calmUpon p P w (S j) ((execOp a.eval o).run P w))
    (h : ∀ v w', p.R w w' → Rel p P w0 (execOp a.eval o) fj (S j) v w' → K' (a.put o.dst v) w') : o.wp P a w K' Q' := by
  have h' : ∀ v w', p.R w w' → gives p (S j) v w' ((execOp a.eval o).run P w) → K' (a.put o.dst v) w' := fun v w' h1 h2 => h v w' h1 ⟨w, he, hf, h2⟩
  clear h
  unfold Oper.wp
  generalize (execOp a.eval o).run P w = r at *
  cases r with
  | ok n w' =>
    cases n <;> simp only [calmUpon] at hu <;> simp only [Oper.upon]
    case value u => exact h' _ _ hu ⟨rfl, p.refl _⟩
    case skip => exact h' _ _ hu ⟨rfl, p.refl _⟩
    case enter f args => exact hu.mono fun e w'' ⟨v, he', hx, hs⟩ => by subst he'; exact h' _ _ hx hs
  | halt x w' => simp only [calmUpon] at hu

/-- There is a value that comes out. -/
theorem exists_of_calm {x : Sem Next} {w : World} {j : Nat} {fj : World → Prop} (he : p.R w0 w) (hf : fj w) (hu : calmUpon p P w (S j) (x.run P w)) :
    ∃ v w', p.R w w' ∧ Rel p P w0 x fj (S j) v w' := by
  have key : ∃ v w', p.R w w' ∧ gives p (S j) v w' (x.run P w) := by
    generalize x.run P w = r at *
    cases r with
    | ok n w' =>
      cases n <;> simp only [calmUpon] at hu
      case value u => exact ⟨u, w', hu, rfl, p.refl _⟩
      case skip => exact ⟨undef, w', hu, rfl, p.refl _⟩
      case enter f args =>
        obtain ⟨e, w'', _, ⟨v, _, hx, hs⟩, _⟩ := hu []
        exact ⟨v, w'', hx, hs⟩
    | halt x w' => simp only [calmUpon] at hu
  obtain ⟨v, w', h1, h2⟩ := key
  exact ⟨v, w', h1, w, he, hf, h2⟩

theorem wpOp_of_cOp {j : Nat} {a : Act} {F : Fx} {w : World} {K : Act → Fx → Prop} {K' : Act → World → Prop} {Q' : Exit → Act → World → Prop} (hS : StableS p S)
    (he : p.R w0 w) (hF : ∀ k, F k w) (hst : StableF p F) (h : ∀ a F w', p.R w0 w' → (∀ k, F k w') → StableF p F → K a F → K' a w') (hc : cOp p P ops S w0 j K a F) : wpOp P ops Q' j K' a w := by
  obtain ⟨o, ho, hy, hn⟩ := hc
  unfold wpOp
  simp only [ho]
  cases hw : Region.wanted o (yielded ops a.tmps) with
  | true =>
    simp only [if_true]
    refine .inl (wp_of_calm (S := S) (j := j) (fj := facts ops F j) he (fun k _ => hF k) (hy hw w he (fun k _ => hF k)) fun v w' hx hr => ?_)
    have hx0 := p.trans he hx
    have hF' : ∀ k, (F.put j (Rel p P w0 (execOp a.eval o) (facts ops F j) (S j) v)) k w' := fun k => ⟨hst _ _ _ hx (hF k), fun _ => hr⟩
    exact h _ _ _ hx0 hF' (hst.put (rel_stable hS)) (hn.1 hw v ⟨w', hx0, hF'⟩)
  | false =>
    simp only [Bool.false_eq_true, if_false]
    exact h _ _ _ he hF hst (hn.2 hw)

theorem wpAny_of_headC {n g : Nat} {L : Array Bool → Act → Fx → Prop} {Q' : Exit → Act → World → Prop} (hS : StableS p S)
    (hL : ∀ listed a F w, p.R w0 w → (∀ k, F k w) → L listed a F → wpAny P .any ops Q' g listed a w) :
    ∀ (f : Nat) (listed : Array Bool) (a : Act) (F : Fx) (w : World), p.R w0 w → (∀ k, F k w) → StableF p F → wpAnyC p P ops S w0 n L f listed a F → wpAny P .any ops Q' (f + g) listed a w
  | 0, listed, a, F, w, he, hF, _, h => by rw [Nat.zero_add]; exact hL _ _ _ _ he hF h
  | f + 1, listed, a, F, w, he, hF, hst, h => by
    rw [show f + 1 + g = (f + g) + 1 by omega]
    exact ⟨fun h0 => absurd h0 h.1, fun i hi => wpOp_of_cOp hS he hF hst (fun a' F' w' he' hF' hst' h' => wpAny_of_headC hS hL f _ a' F' w' he' hF' hst' h') (h.2 i hi).2⟩

theorem wpAnyC_first {n i : Nat} {oi : Oper} {L : Array Bool → Act → Fx → Prop} (hS : StableS p S) (hi : ops[i]? = some oi) (hsel : ∀ (j : Nat) (o : Oper) cs b, ops[j]? = some o → o.op ≠ .select cs b)
    (htail : ∀ listed, HeadInv .any ops n listed → ∀ i, i < n → listed.getD i true = false → ∀ t, n ≤ t → t ∉ Region.ready .any ops listed) (hin : i < n)
    (hdone : ∀ listed a F, L listed a F → ∀ j ∈ Region.ready .any ops listed, n ≤ j) :
    ∀ (f : Nat) (listed : Array Bool) (a : Act) (F : Fx), HeadInv .any ops n listed →
      (∀ j oj, ops[j]? = some oj → j ≠ i → listed.getD j true = false → (∀ e ∈ oj.after, Region.binds .any e = true → e.on ≠ i) → oi.apart ops oj = true) →
      i ∈ Region.ready .any ops listed → Sat p w0 F → StableF p F → YC p P ops S w0 i oi a F →
      Cont p P ops S w0 i oi a F (wpAnyC p P ops S w0 n L f (listed.setIfInBounds i true)) → wpAnyC p P ops S w0 n L (f + 1) listed a F := by
  intro f
  induction f with
  | zero =>
    intro listed a F inv _ hr hsat hst hy H
    have hun := (mem_ready.1 hr).1
    refine ⟨fun h => (by rw [h] at hr; cases hr), fun j hj => ?_⟩
    have hjn : j < n := by
      rcases Nat.lt_or_ge j n with h | h
      · exact h
      · exact absurd hj (htail listed inv i hin hun j h)
    refine ⟨hjn, ?_⟩
    by_cases hji : j = i
    · subst hji; exact ⟨oi, hi, hy, H⟩
    · exfalso
      have hL : ∃ a' F', L (listed.setIfInBounds i true) a' F' := by
        cases hw : Region.wanted oi (yielded ops a.tmps) with
        | true =>
          obtain ⟨w, he, hF⟩ := hsat
          obtain ⟨v, w', hx, hrel⟩ := exists_of_calm (fj := facts ops F i) he (fun k _ => hF k) (hy hw w he (fun k _ => hF k))
          exact ⟨_, _, H.1 hw v ⟨w', p.trans he hx, fun k => ⟨hst _ _ _ hx (hF k), fun _ => hrel⟩⟩⟩
        | false => exact ⟨_, _, H.2 hw⟩
      obtain ⟨a', F', hl⟩ := hL
      have := hdone _ _ _ hl j (ready_mono hj hji)
      omega
  | succ f ih =>
    intro listed a F inv hfree hr hsat hst hy H
    have hun := (mem_ready.1 hr).1
    refine ⟨fun h => (by rw [h] at hr; cases hr), fun j hj => ?_⟩
    have hjn : j < n := by
      rcases Nat.lt_or_ge j n with h | h
      · exact h
      · exact absurd hj (htail listed inv i hin hun j h)
    refine ⟨hjn, ?_⟩
    by_cases hji : j = i
    · subst hji; exact ⟨oi, hi, hy, H⟩
    · obtain ⟨hjun, oj, hoj, hall⟩ := mem_ready.1 hj
      have hnot : ∀ e ∈ oj.after, Region.binds .any e = true → e.on ≠ i := fun e he hb heq => by
        have h1 := hall e he hb
        rw [heq, getD_both hun] at h1
        cases h1
      obtain ⟨p1, p2, p3⟩ := Oper.apart_spec (hfree j oj hoj hji hjun hnot)
      have hsi := fun cs b => hsel i oi cs b hi
      have hsj := fun cs b => hsel j oj cs b hoj
      have bji : befB ops 3 j i = false := not_bef inv hj hun
      have bij : befB ops 3 i j = false := not_bef inv hr hjun
      -- what the head's continuation says of operation j behind operation i, at whatever value
      have after_i : ∀ a' F', wpAnyC p P ops S w0 n L (f + 1) (listed.setIfInBounds i true) a' F' → YC p P ops S w0 j oj a' F' ∧ Cont p P ops S w0 j oj a' F' (wpAnyC p P ops S w0 n L f ((listed.setIfInBounds i true).setIfInBounds j true)) := by
        intro a' F' h
        obtain ⟨_, o, ho, h1, h2⟩ := h.2 j (ready_mono hj hji)
        have : o = oj := Option.some.inj (ho.symm.trans hoj)
        subst this
        exact ⟨h1, h2⟩
      have wj : ∀ u, Region.wanted oj (yielded ops (a.put oi.dst u).tmps) = Region.wanted oj (yielded ops a.tmps) := fun u => wanted_put oj a oi.dst u p1
      have xj : ∀ u, execOp (a.put oi.dst u).eval oj = execOp a.eval oj := fun u => execOp_put oj hsj a oi.dst u p1
      have wi : ∀ u, Region.wanted oi (yielded ops (a.put oj.dst u).tmps) = Region.wanted oi (yielded ops a.tmps) := fun u => wanted_put oi a oj.dst u p3
      have xi : ∀ u, execOp (a.put oj.dst u).eval oi = execOp a.eval oi := fun u => execOp_put oi hsi a oj.dst u p3
      -- operation j yields now, too
      have yj : YC p P ops S w0 j oj a F := by
        intro hwj
        cases hw : Region.wanted oi (yielded ops a.tmps) with
        | true =>
          obtain ⟨w, he, hF⟩ := hsat
          obtain ⟨v, w', hx, hrel⟩ := exists_of_calm (fj := facts ops F i) he (fun k _ => hF k) (hy hw w he (fun k _ => hF k))
          have h1 := (after_i _ _ (H.1 hw v ⟨w', p.trans he hx, fun k => ⟨hst _ _ _ hx (hF k), fun _ => hrel⟩⟩)).1
          unfold YC at h1
          rw [wj, xj, facts_put bji] at h1
          exact h1 hwj
        | false =>
          have h1 := (after_i _ _ (H.2 hw)).1
          unfold YC at h1
          rw [wj, xj] at h1
          exact h1 hwj
      have hfree' : ∀ k ok, ops[k]? = some ok → k ≠ i → (listed.setIfInBounds j true).getD k true = false →
          (∀ e ∈ ok.after, Region.binds .any e = true → e.on ≠ i) → oi.apart ops ok = true := fun k ok hk hki hun' hno => by
        refine hfree k ok hk hki ?_ hno
        by_cases hjk : j = k
        · subst hjk; exact hjun
        · rw [getD_set_ne true hjk] at hun'; exact hun'
      refine ⟨oj, hoj, yj, fun hwj u hsu => ?_, fun hwj => ?_⟩
      · -- operation j is taken, with u
        generalize hFj : F.put j (Rel p P w0 (execOp a.eval oj) (facts ops F j) (S j) u) = Fj at *
        have hfi : facts ops Fj i = facts ops F i := by rw [← hFj]; exact facts_put bij
        have hstj : StableF p Fj := by rw [← hFj]; exact hst.put (rel_stable hS)
        refine ih (listed.setIfInBounds j true) (a.put oj.dst u) Fj (inv.set hj hjn) hfree' (ready_mono hr (Ne.symm hji)) hsu hstj ?_ ⟨fun hwi v hsv => ?_, fun hwi => ?_⟩
        · unfold YC
          rw [wi, xi, hfi]
          exact hy
        · rw [wi] at hwi
          rw [xi, hfi] at hsv ⊢
          obtain ⟨w, he, hw⟩ := hsv
          have hsi : Sat p w0 (F.put i (Rel p P w0 (execOp a.eval oi) (facts ops F i) (S i) v)) := by
            refine ⟨w, he, fun k => ⟨?_, fun e => (hw k).2 e⟩⟩
            have := (hw k).1
            rw [← hFj] at this
            exact this.1
          have h2 := (after_i _ _ (H.1 hwi v hsi)).2.1
          rw [wj, xj, facts_put bji] at h2
          have h3 := h2 hwj u ⟨w, he, fun k => ⟨⟨by have := (hw k).1; rw [← hFj] at this; exact this.1, fun e => (hw k).2 e⟩, fun e => by have := (hw k).1; rw [← hFj] at this; exact this.2 e⟩⟩
          rw [Array.setIfInBounds_comm _ _ hji, ← hFj, Fx.put_comm, Act.put_comm a u v (fun d hd hd' => p2 d hd' hd)]
          exact h3
        · rw [wi] at hwi
          have h2 := (after_i _ _ (H.2 hwi)).2.1
          rw [wj, xj] at h2
          have h3 := h2 hwj u (by rw [hFj]; exact hsu)
          rw [Array.setIfInBounds_comm _ _ hji, ← hFj, Act.put_comm a u undef (fun d hd hd' => p2 d hd' hd)]
          exact h3
      · refine ih (listed.setIfInBounds j true) (a.put oj.dst undef) F (inv.set hj hjn) hfree' (ready_mono hr (Ne.symm hji)) hsat hst ?_ ⟨fun hwi v hsv => ?_, fun hwi => ?_⟩
        · unfold YC
          rw [wi, xi]
          exact hy
        · rw [wi] at hwi
          rw [xi] at hsv ⊢
          have h2 := (after_i _ _ (H.1 hwi v hsv)).2.2
          rw [wj] at h2
          have h3 := h2 hwj
          rw [Array.setIfInBounds_comm _ _ hji, Act.put_comm a undef v (fun d hd hd' => p2 d hd' hd)]
          exact h3
        · rw [wi] at hwi
          have h2 := (after_i _ _ (H.2 hwi)).2.2
          rw [wj] at h2
          have h3 := h2 hwj
          rw [Array.setIfInBounds_comm _ _ hji, Act.put_comm a undef undef (fun d hd hd' => p2 d hd' hd)]
          exact h3
end

/-! ### The order of the text, and a tail that is forced -/

section
variable {p : Pre} {P : Program} {ops : Array Oper} {S : Spec} {w0 : World}

theorem Cont.sat {K K' : Act → Fx → Prop} {j : Nat} {o : Oper} {a : Act} {F : Fx} (hS : StableS p S) (hst : StableF p F) (h : ∀ a F, Sat p w0 F → StableF p F → K a F → K' a F) (hs : Sat p w0 F) (hc : Cont p P ops S w0 j o a F K) : Cont p P ops S w0 j o a F K' :=
  ⟨fun hw v hv => h _ _ hv (hst.put (rel_stable hS)) (hc.1 hw v hv), fun hw => h _ _ hs hst (hc.2 hw)⟩

theorem wpAnyC_lex {n g : Nat} {Lq : Act → Fx → Prop} (hS : StableS p S) (hsel : Region.noSelect ops = true)
    (htail : ∀ listed, HeadInv .any ops n listed → ∀ i, i < n → listed.getD i true = false → ∀ t, n ≤ t → t ∉ Region.ready .any ops listed) :
    ∀ (l : List Oper) (k : Nat) (listed : Array Bool) (a : Act) (F : Fx), (∀ j, j < l.length → l[j]? = ops[k + j]?) → k + l.length = n → HeadInv .any ops n listed →
    Region.lexHead .any ops g l.length k listed = true → Sat p w0 F → StableF p F → wpCalm p P ops S w0 Lq l k a F →
    wpAnyC p P ops S w0 n (fun listed' a' F' => Region.seqB .any ops g n listed' = true ∧ Lq a' F') l.length listed a F
  | [], k, listed, a, F, _, hk, _, hB, _, _, h => by
    have : k = n := by simpa using hk
    subst this
    exact ⟨by simpa [Region.lexHead] using hB, h⟩
  | o :: l, k, listed, a, F, hl, hk, inv, hB, hs, hst, h => by
    have h0 : ops[k]? = some o := by simpa using (hl 0 (by simp)).symm
    simp only [List.length_cons, Region.lexHead, Bool.and_eq_true] at hB
    obtain ⟨⟨hr, hf⟩, hB'⟩ := hB
    have hkn : k < n := by simp only [List.length_cons] at hk; omega
    have hr' : k ∈ Region.ready .any ops listed := by simpa using hr
    refine wpAnyC_first hS h0 (Region.noSelect_spec hsel) htail hkn (fun listed' a' F' hL => seqB_ready hL.1) l.length listed a F inv (Region.free_spec h0 hf) hr' hs hst h.1 ?_
    exact Cont.sat hS hst (fun a' F' hs' hst' hK => wpAnyC_lex hS hsel htail l (k + 1) _ a' F' (fun j hj => by have := hl (j + 1) (by simp; omega); simpa [Nat.add_assoc, Nat.add_comm 1 j] using this)
      (by simp only [List.length_cons] at hk; omega) (inv.set hr' hkn) hB' hs' hst' hK) hs h.2

theorem wp_region_calm {id : Nat} {Q : Exit → Act → World → Prop} {a : Act} {w : World} {l : List Oper} (n : Nat) (S : Spec) (hS : StableS p S) (hm : P.follows .mixedOrders = true) (hB : calmB l.toArray n = true)
    (h : wpCalm p P l.toArray S w (fun a' F => ∀ w', p.R w w' → (∀ k, F k w') → wpList P l.toArray Q (l.drop n) a' w') (l.take n) 0 a (fun _ _ => True)) : (Code.region id l.toArray true).wp P Q a w := by
  simp only [calmB, Bool.and_eq_true, Bool.or_eq_true, decide_eq_true_eq] at hB
  obtain ⟨⟨hsel, hn⟩, hlex⟩ := hB
  have hn' : n ≤ l.length := by
    rcases hn with h1 | h1
    · rw [h1]; simp
    · have := h1.1.1; simp at this; omega
  have htl : (l.take n).length = n := by simp; omega
  have hdl : (l.drop n).length = l.toArray.size - n := by simp
  have htail := calm_tail (ops := l.toArray) (n := n) (by rcases hn with h1 | h1; exact .inl h1; exact .inr ⟨h1.1.1, h1.1.2, h1.2⟩)
  have inv0 : HeadInv .any l.toArray n (Array.replicate l.toArray.size false) :=
    ⟨by simp, fun j oj _ hl => (by rw [getD_replicate_false] at hl; cases hl), fun t _ ht => getD_in (by simpa using ht) (getD_replicate_false _ _)⟩
  have H := wpAnyC_lex (g := l.toArray.size - n) hS hsel htail (l.take n) 0 _ a _ (fun j hj => by
    have hj' : j < n := by rw [htl] at hj; exact hj
    simp [hj']) (by simpa using htl) inv0 (by rw [htl]; exact hlex) ⟨w, p.refl _, fun _ => trivial⟩ (fun _ _ _ _ h => h) h
  refine wp_region_any hm ?_
  have := wpAny_of_headC (P := P) (ops := l.toArray) (S := S) (w0 := w) (n := n) (Q' := Q) (g := l.toArray.size - n) hS (fun listed a' F w1 he hF hL => by
    have := wpAny_of_seq (md := .any) (Q' := Q) (l.drop n) n listed a' w1 (fun j => by simp [List.getElem?_drop]) (by rw [hdl]; exact hL.1) (hL.2 w1 he hF)
    rwa [hdl] at this) (l.take n).length (Array.replicate l.toArray.size false) a (fun _ _ => True) { w with drawn := w.drawn + 1 } (p.drawn (p.refl w) _) (fun _ => trivial) (fun _ _ _ _ h => h) H
  rw [htl, show n + (l.toArray.size - n) = l.toArray.size by omega] at this
  exact this

/-! ### Steps -/

theorem wpCalm_mono {Q : Act → Fx → Prop} (hQ : MonoQ Q) : ∀ (l : List Oper) (k : Nat) (a : Act) (F F' : Fx), (∀ k w, F' k w → F k w) → wpCalm p P ops S w0 Q l k a F → wpCalm p P ops S w0 Q l k a F'
  | [], _, a, F, F', h, hh => hQ a F F' h hh
  | o :: l, k, a, F, F', h, ⟨hy, hn⟩ => by
    have hf : ∀ w, facts ops F' k w → facts ops F k w := fun w hf i hi => h _ _ (hf i hi)
    have hr : ∀ v w, Rel p P w0 (execOp a.eval o) (facts ops F' k) (S k) v w → Rel p P w0 (execOp a.eval o) (facts ops F k) (S k) v w := fun v w ⟨w1, h1, h2, h3⟩ => ⟨w1, h1, hf _ h2, h3⟩
    have hp : ∀ v, ∀ i w, (F'.put k (Rel p P w0 (execOp a.eval o) (facts ops F' k) (S k) v)) i w → (F.put k (Rel p P w0 (execOp a.eval o) (facts ops F k) (S k) v)) i w := fun v i w hh => ⟨h _ _ hh.1, fun e => hr _ _ (hh.2 e)⟩
    exact ⟨fun hw w he hf' => hy hw w he (hf w hf'), fun hw v ⟨w, he, hs⟩ => wpCalm_mono hQ l (k + 1) _ _ _ (hp v) (hn.1 hw v ⟨w, he, fun i => hp v i w (hs i)⟩), fun hw => wpCalm_mono hQ l (k + 1) _ _ _ h (hn.2 hw)⟩

theorem calm_mono_final {Q : Act → World → Prop} : MonoQ (fun a F => ∀ w', p.R w0 w' → (∀ k, F k w') → Q a w') := fun _ _ _ h hq w' he hF => hq w' he (fun k => h _ _ (hF k))

/-- Operations that leave the world alone: by the quiet walk (Derived/Deep/Quiet.lean), in the class of all worlds that hold what w0 holds. -/
theorem calm_chunk {Q : Act → Fx → Prop} (hQ : MonoQ Q) (b : World) (hb : ∀ w, p.R w0 w → Ext b w) : ∀ (l l2 : List Oper) (k : Nat) (a : Act) (F : Fx), (l.all fun o => quietKind o) = true →
    wpQuiet P ops (fun w => ∃ x : Later b, w = x.w) (fun a' => wpCalm p P ops S w0 Q l2 (k + l.length) a' F) l a → wpCalm p P ops S w0 Q (l ++ l2) k a F := by
  intro l
  induction l with
  | nil => intro l2 k a F _ h; exact h
  | cons o l ih =>
    intro l2 k a F hk h
    simp only [List.all_cons, Bool.and_eq_true] at hk
    unfold wpQuiet at h
    have hlen : k + (o :: l).length = (k + 1) + l.length := by simp only [List.length_cons]; omega
    rw [hlen] at h
    cases hw : Region.wanted o (yielded ops a.tmps) with
    | true =>
      rw [hw, if_pos rfl] at h
      obtain ⟨v, h1, h2⟩ := h
      -- what comes out, in any world: v, and nothing else has happened, or (for a row of the model's own) a call
      refine ⟨fun _ w he _ => ?_, fun _ u hu => ?_, fun hf => by rw [hw] at hf; cases hf⟩
      · have h3 := h1 w ⟨⟨w, hb w he⟩, rfl⟩
        have hne := noEnter_of_quietKind (P := P) hk.1 a.eval w
        unfold Oper.quietAt at h3
        generalize (execOp a.eval o).run P w = r at *
        cases r with
        | ok n w' =>
          cases n <;> simp only [Oper.quietUpon] at h3 <;> simp only [calmUpon]
          case value x => obtain ⟨e, _⟩ := h3; rw [e]; exact p.refl _
          case skip => obtain ⟨e, _⟩ := h3; rw [e]; exact p.refl _
          case enter f args => exact hne.elim
        | halt x w' => simp only [Oper.quietUpon] at h3
      · obtain ⟨w, he, hs⟩ := hu
        obtain ⟨w1, he1, _, hg⟩ := (hs k).2 rfl
        have h3 := h1 w1 ⟨⟨w1, hb w1 he1⟩, rfl⟩
        have hne := noEnter_of_quietKind (P := P) hk.1 a.eval w1
        have huv : u = v := by
          unfold Oper.quietAt at h3
          generalize (execOp a.eval o).run P w1 = r at *
          cases r with
          | ok n w' =>
            cases n <;> simp only [Oper.quietUpon] at h3 <;> simp only [gives] at hg
            case value x => rw [hg.1, h3.2]
            case skip => rw [hg.1, h3.2]
            case enter f args => exact hne.elim
          | halt x w' => simp only [Oper.quietUpon] at h3
        subst huv
        exact wpCalm_mono hQ _ _ _ F _ (fun _ _ hh => hh.1) (ih l2 (k + 1) _ F hk.2 h2)
    | false =>
      rw [hw] at h
      exact ⟨fun hf => (by rw [hw] at hf; cases hf), fun hf => (by rw [hw] at hf; cases hf), fun _ => ih l2 (k + 1) _ F hk.2 h⟩

theorem calm_nil {Q : Act → Fx → Prop} {k : Nat} {a : Act} {F : Fx} (h : Q a F) : wpCalm p P ops S w0 Q [] k a F := h

/-- A call of a Go function: its result is any value that S lets by. -/
theorem calm_call {Q : Act → Fx → Prop} {o : Oper} {l : List Oper} {k : Nat} {a : Act} {F : Fx} (hQ : MonoQ Q) (f : FuncId) (args : Array Value) (hw : Region.wanted o (yielded ops a.tmps) = true)
    (hrun : ∀ w, (execOp a.eval o).run P w = .ok (.enter f args) w)
    (hcall : ∀ w, p.R w0 w → facts ops F k w → Calls P f args w (fun e w'' => ∃ v, e = .returned v ∧ p.R w w'' ∧ S k args v w''))
    (hn : ∀ v w', p.R w0 w' → S k args v w' → wpCalm p P ops S w0 Q l (k + 1) (a.put o.dst v) (F.put k (S k args v))) : wpCalm p P ops S w0 Q (o :: l) k a F := by
  refine ⟨fun _ w he hf => ?_, fun _ v hv => ?_, fun hf => by rw [hw] at hf; cases hf⟩
  · rw [hrun]; exact hcall w he hf
  · have hS : ∀ w', Rel p P w0 (execOp a.eval o) (facts ops F k) (S k) v w' → S k args v w' := fun w' ⟨w1, _, _, h⟩ => by rw [hrun] at h; exact h
    obtain ⟨w', he, hs⟩ := hv
    exact wpCalm_mono hQ _ _ _ _ _ (fun i w h => ⟨h.1, fun e => hS _ (h.2 e)⟩) (hn v w' he (hS _ ((hs k).2 rfl)))

/-- The chunk, with its number of operations. -/
theorem calm_quiet {Q : Act → Fx → Prop} (hQ : MonoQ Q) (b : World) (hb : ∀ w, p.R w0 w → Ext b w) (m : Nat) {l : List Oper} {k : Nat} {a : Act} {F : Fx} (hk : ((l.take m).all fun o => quietKind o) = true)
    (h : wpQuiet P ops (fun w => ∃ x : Later b, w = x.w) (fun a' => wpCalm p P ops S w0 Q (l.drop m) (k + (l.take m).length) a' F) (l.take m) a) : wpCalm p P ops S w0 Q l k a F := by
  rw [← List.take_append_drop m l]
  exact calm_chunk hQ b hb _ _ _ _ _ hk h
end

section
variable {p : Pre} {P : Program} {ops : Array Oper} {S : Spec} {w0 : World}
/-- An operation that is not wanted. -/
theorem calm_skip {Q : Act → Fx → Prop} {o : Oper} {l : List Oper} {k : Nat} {a : Act} {F : Fx} (hw : Region.wanted o (yielded ops a.tmps) = false)
    (hn : wpCalm p P ops S w0 Q l (k + 1) (a.put o.dst undef) F) : wpCalm p P ops S w0 Q (o :: l) k a F :=
  ⟨fun h => by (rw [hw] at h; cases h), fun h => by (rw [hw] at h; cases h), fun _ => hn⟩

/-- A store. -/
theorem calm_store {Q : Act → Fx → Prop} {o : Oper} {l : List Oper} {k : Nat} {a : Act} {F : Fx} (hQ : MonoQ Q) (ad : Addr) (u : Value) (hw : Region.wanted o (yielded ops a.tmps) = true)
    (hrun : ∀ w, p.R w0 w → (execOp a.eval o).run P w = .ok .skip (w.setCell ad u))
    (hR : ∀ w, p.R w0 w → p.R w (w.setCell ad u))
    (hn : wpCalm p P ops S w0 Q l (k + 1) (a.put o.dst undef) (F.put k (fun w => ∃ w1, p.R w0 w1 ∧ p.R (w1.setCell ad u) w))) : wpCalm p P ops S w0 Q (o :: l) k a F := by
  refine ⟨fun _ w he _ => ?_, fun _ v hv => ?_, fun hf => by rw [hw] at hf; cases hf⟩
  · rw [hrun w he]; exact hR w he
  · obtain ⟨w', he, hs⟩ := hv
    obtain ⟨w1, he1, _, hg⟩ := (hs k).2 rfl
    rw [hrun w1 he1] at hg
    obtain ⟨rfl, hx⟩ := hg
    refine wpCalm_mono hQ _ _ _ _ _ (fun i w h => ⟨h.1, fun e => ?_⟩) hn
    obtain ⟨w2, h1, _, h2⟩ := h.2 e
    rw [hrun w2 h1] at h2
    exact ⟨w2, h1, h2.2⟩
end
end Cw
end Go.Proofs.Ytbclbcldplmppaa

/- Regions that draw their order: as XCw, and what some operations make lies apart from what the others make. No program in sight. -/
namespace Go.Proofs.Ytbclbcldplmppaa
open Go.RowKit
namespace Cf

/-- A kind of growth. -/
structure Pre where
  R : World → World → Prop
  refl : ∀ w, R w w
  trans : ∀ {a b c}, R a b → R b c → R a c
  drawn : ∀ {a w : World}, R a w → ∀ n, R a { w with drawn := n }
  size : ∀ {a b : World}, R a b → a.heap.size ≤ b.heap.size

/-! ### The theory -/

/-- What has been made new. -/
abbrev VV := Value → Prop
def VV.put (fr : Nat → Bool) (V : VV) (j : Nat) (v : Value) : VV := fun u => V u ∨ (fr j = true ∧ u = v)
def InW (V : VV) (w : World) : Prop := ∀ u, V u → ∃ g, u.ownBlock = some g ∧ g < w.heap.size
def Far (V : VV) (v : Value) : Prop := ∀ u, V u → u.ownBlock ≠ v.ownBlock
def New (v : Value) (w w' : World) : Prop := ∃ g, v.ownBlock = some g ∧ w.heap.size ≤ g ∧ g < w'.heap.size
/-- What is known: facts on worlds, and what has been made new. -/
structure Gx where
  F : Fx
  V : VV
def Gx.put (fr : Nat → Bool) (G : Gx) (j : Nat) (T : World → Prop) (v : Value) : Gx := ⟨G.F.put j T, G.V.put fr j v⟩
def Gx.Holds (G : Gx) (w : World) : Prop := (∀ k, G.F k w) ∧ InW G.V w
def Sat (p : Pre) (w0 : World) (G : Gx) : Prop := ∃ w, p.R w0 w ∧ G.Holds w

theorem VV.put_comm (fr : Nat → Bool) (V : VV) (i j : Nat) (u v : Value) : (V.put fr i u).put fr j v = (V.put fr j v).put fr i u := by
  funext x
  apply propext
  constructor
  · rintro ((h | h) | h)
    · exact .inl (.inl h)
    · exact .inr h
    · exact .inl (.inr h)
  · rintro ((h | h) | h)
    · exact .inl (.inl h)
    · exact .inr h
    · exact .inl (.inr h)
theorem InW.put {fr : Nat → Bool} {V : VV} {j : Nat} {v : Value} {w w' : World} (h : InW V w) (hs : w.heap.size ≤ w'.heap.size) (hn : fr j = true → New v w w') : InW (V.put fr j v) w' := fun u hu => by
  rcases hu with hu | ⟨hf, rfl⟩
  · obtain ⟨g, hg, hl⟩ := h u hu
    exact ⟨g, hg, Nat.lt_of_lt_of_le hl hs⟩
  · obtain ⟨g, hg, _, hl⟩ := hn hf
    exact ⟨g, hg, hl⟩
theorem InW.back {fr : Nat → Bool} {V : VV} {j : Nat} {v : Value} {w : World} (h : InW (V.put fr j v) w) : InW V w := fun u hu => h u (.inl hu)
theorem Far.of_new {V : VV} {v : Value} {w w' : World} (h : InW V w) (hn : New v w w') : Far V v := fun u hu e => by
  obtain ⟨g, hg, hl⟩ := h u hu
  obtain ⟨g', hg', hl', _⟩ := hn
  rw [hg, hg'] at e
  injection e with e
  omega
theorem Far.put {fr : Nat → Bool} {V : VV} {i : Nat} {u v : Value} (h : Far V u) (hi : fr i = true → v.ownBlock ≠ u.ownBlock) : Far (V.put fr i v) u := fun x hx => by
  rcases hx with hx | ⟨hf, rfl⟩
  · exact h x hx
  · exact hi hf

theorem Gx.put_comm (fr : Nat → Bool) (G : Gx) (i j : Nat) (R T : World → Prop) (u v : Value) : (G.put fr i R u).put fr j T v = (G.put fr j T v).put fr i R u := by
  unfold Gx.put
  rw [Fx.put_comm, VV.put_comm]

def calmUpon (p : Pre) (P : Program) (w : World) (fj : Bool) (Sj : Array Value → Value → World → Prop) : Result Next → Prop
  | .ok (.value u) w' => p.R w w' ∧ (fj = true → New u w w')
  | .ok .skip w' => p.R w w' ∧ fj = false
  | .ok (.enter f args) w' => Calls P f args w' (fun e w'' => ∃ v, e = .returned v ∧ p.R w w'' ∧ Sj args v w'' ∧ (fj = true → New v w w''))
  | _ => False

def gives (p : Pre) (Sj : Array Value → Value → World → Prop) (v : Value) (w' : World) : Result Next → Prop
  | .ok (.value u) w2 => v = u ∧ p.R w2 w'
  | .ok .skip w2 => v = undef ∧ p.R w2 w'
  | .ok (.enter _ args) _ => Sj args v w'
  | _ => False

section
variable (p : Pre) (P : Program) (ops : Array Oper) (S : Spec) (fr : Nat → Bool) (w0 : World)

def Rel (x : Sem Next) (fj : World → Prop) (Sj : Array Value → Value → World → Prop) (v : Value) (w' : World) : Prop :=
  ∃ w1, p.R w0 w1 ∧ fj w1 ∧ gives p Sj v w' (x.run P w1)

def YC (j : Nat) (o : Oper) (a : Act) (F : Gx) : Prop :=
  Region.wanted o (yielded ops a.tmps) = true → ∀ w, p.R w0 w → facts ops F.F j w → calmUpon p P w (fr j) (S j) ((execOp a.eval o).run P w)

def Cont (j : Nat) (o : Oper) (a : Act) (F : Gx) (K : Act → Gx → Prop) : Prop :=
  (Region.wanted o (yielded ops a.tmps) = true → ∀ v, (fr j = true → Far F.V v) → Sat p w0 (F.put fr j (Rel p P w0 (execOp a.eval o) (facts ops F.F j) (S j) v) v) →
    K (a.put o.dst v) (F.put fr j (Rel p P w0 (execOp a.eval o) (facts ops F.F j) (S j) v) v)) ∧
  (Region.wanted o (yielded ops a.tmps) = false → K (a.put o.dst undef) F)

def cOp (j : Nat) (K : Act → Gx → Prop) (a : Act) (F : Gx) : Prop :=
  ∃ o, ops[j]? = some o ∧ YC p P ops S fr w0 j o a F ∧ Cont p P ops S fr w0 j o a F K

def wpCalm (Q : Act → Gx → Prop) : List Oper → Nat → Act → Gx → Prop
  | [], _, a, F => Q a F
  | o :: rest, k, a, F => YC p P ops S fr w0 k o a F ∧ Cont p P ops S fr w0 k o a F (wpCalm Q rest (k + 1))

def wpAnyC (n : Nat) (L : Array Bool → Act → Gx → Prop) : Nat → Array Bool → Act → Gx → Prop
  | 0, listed, a, F => L listed a F
  | f + 1, listed, a, F =>
    Region.ready .any ops listed ≠ [] ∧ ∀ i ∈ Region.ready .any ops listed, i < n ∧ cOp p P ops S fr w0 i (wpAnyC n L f (listed.setIfInBounds i true)) a F
end

def StableF (p : Pre) (F : Gx) : Prop := ∀ k w w', p.R w w' → F.F k w → F.F k w'
def StableS (p : Pre) (S : Spec) : Prop := ∀ j args v w w', p.R w w' → S j args v w → S j args v w'

section
variable {p : Pre} {P : Program} {ops : Array Oper} {S : Spec} {fr : Nat → Bool} {w0 : World}

theorem gives_stable {Sj : Array Value → Value → World → Prop} (hS : ∀ args v w w', p.R w w' → Sj args v w → Sj args v w') {v : Value} {w w' : World} {r : Result Next} (he : p.R w w') (h : gives p Sj v w r) : gives p Sj v w' r := by
  unfold gives at *
  split at h
  · exact ⟨h.1, p.trans h.2 he⟩
  · exact ⟨h.1, p.trans h.2 he⟩
  · exact hS _ _ _ _ he h
  · exact h.elim

theorem StableF.put {F : Gx} (h : StableF p F) {i : Nat} {T : World → Prop} {v : Value} (hT : ∀ w w', p.R w w' → T w → T w') : StableF p (F.put fr i T v) :=
  fun k w w' he hk => ⟨h k w w' he hk.1, fun e => hT _ _ he (hk.2 e)⟩

theorem rel_stable (hS : StableS p S) {x : Sem Next} {fj : World → Prop} {j : Nat} {v : Value} : ∀ w w', p.R w w' → Rel p P w0 x fj (S j) v w → Rel p P w0 x fj (S j) v w' :=
  fun _ _ he ⟨w1, h1, h2, h3⟩ => ⟨w1, h1, h2, gives_stable (hS j) he h3⟩

/-- From an actual world: the operation runs, and what comes out is related. -/
theorem wp_of_calm {o : Oper} {a : Act} {w : World} {j : Nat} {fj : World → Prop} {K' : Act → World → Prop} {Q' : Exit → Act → World → Prop}
    (he : p.R w0 w) (hf : fj w) (hu : calmUpon p P w (fr j) (S j) ((execOp a.eval o).run P w))
    (h : ∀ v w', p.R w w' → Rel p P w0 (execOp a.eval o) fj (S j) v w' → (fr j = true → New v w w') → K' (a.put o.dst v) w') : o.wp P a w K' Q' := by
  have h' : ∀ v w', p.R w w' → gives p (S j) v w' ((execOp a.eval o).run P w) → (fr j = true → New v w w') → K' (a.put o.dst v) w' := fun v w' h1 h2 => h v w' h1 ⟨w, he, hf, h2⟩
  clear h
  unfold Oper.wp
  generalize (execOp a.eval o).run P w = r at *
  cases r with
  | ok n w' =>
    cases n <;> simp only [calmUpon] at hu <;> simp only [Oper.upon]
    case value u => exact h' _ _ hu.1 ⟨rfl, p.refl _⟩ hu.2
    case skip => exact h' _ _ hu.1 ⟨rfl, p.refl _⟩ (fun e => by rw [hu.2] at e; cases e)
    case enter f args => exact hu.mono fun e w'' ⟨v, he', hx, hs, hn⟩ => by subst he'; exact h' _ _ hx hs hn
  | halt x w' => simp only [calmUpon] at hu

/-- There is a value that comes out. -/
theorem exists_of_calm {x : Sem Next} {w : World} {j : Nat} {fj : World → Prop} (he : p.R w0 w) (hf : fj w) (hu : calmUpon p P w (fr j) (S j) (x.run P w)) :
    ∃ v w', p.R w w' ∧ Rel p P w0 x fj (S j) v w' ∧ (fr j = true → New v w w') := by
  have key : ∃ v w', p.R w w' ∧ gives p (S j) v w' (x.run P w) ∧ (fr j = true → New v w w') := by
    generalize x.run P w = r at *
    cases r with
    | ok n w' =>
      cases n <;> simp only [calmUpon] at hu
      case value u => exact ⟨u, w', hu.1, ⟨rfl, p.refl _⟩, hu.2⟩
      case skip => exact ⟨undef, w', hu.1, ⟨rfl, p.refl _⟩, fun e => by rw [hu.2] at e; cases e⟩
      case enter f args =>
        obtain ⟨e, w'', _, ⟨v, _, hx, hs, hn⟩, _⟩ := hu []
        exact ⟨v, w'', hx, hs, hn⟩
    | halt x w' => simp only [calmUpon] at hu
  obtain ⟨v, w', h1, h2, h3⟩ := key
  exact ⟨v, w', h1, ⟨w, he, hf, h2⟩, h3⟩

/-- Behind the operation all that was known holds, and what it says. -/
theorem Gx.Holds.put {F : Gx} {j : Nat} {T : World → Prop} {v : Value} {w w' : World} (hst : StableF p F) (hF : F.Holds w) (hx : p.R w w') (hT : T w') (hn : fr j = true → New v w w') : (F.put fr j T v).Holds w' :=
  ⟨fun k => ⟨hst _ _ _ hx (hF.1 k), fun _ => hT⟩, hF.2.put (p.size hx) hn⟩

theorem wpOp_of_cOp {j : Nat} {a : Act} {F : Gx} {w : World} {K : Act → Gx → Prop} {K' : Act → World → Prop} {Q' : Exit → Act → World → Prop} (hS : StableS p S)
    (he : p.R w0 w) (hF : F.Holds w) (hst : StableF p F) (h : ∀ a F w', p.R w0 w' → F.Holds w' → StableF p F → K a F → K' a w') (hc : cOp p P ops S fr w0 j K a F) : wpOp P ops Q' j K' a w := by
  obtain ⟨o, ho, hy, hn⟩ := hc
  unfold wpOp
  simp only [ho]
  cases hw : Region.wanted o (yielded ops a.tmps) with
  | true =>
    simp only [if_true]
    refine .inl (wp_of_calm (S := S) (fr := fr) (j := j) (fj := facts ops F.F j) he (fun k _ => hF.1 k) (hy hw w he (fun k _ => hF.1 k)) fun v w' hx hr hnew => ?_)
    have hx0 := p.trans he hx
    have hF' : (F.put fr j (Rel p P w0 (execOp a.eval o) (facts ops F.F j) (S j) v) v).Holds w' := Gx.Holds.put hst hF hx hr hnew
    exact h _ _ _ hx0 hF' (hst.put (rel_stable hS)) (hn.1 hw v (fun e => Far.of_new hF.2 (hnew e)) ⟨w', hx0, hF'⟩)
  | false =>
    simp only [Bool.false_eq_true, if_false]
    exact h _ _ _ he hF hst (hn.2 hw)

theorem wpAny_of_headC {n g : Nat} {L : Array Bool → Act → Gx → Prop} {Q' : Exit → Act → World → Prop} (hS : StableS p S)
    (hL : ∀ listed a F w, p.R w0 w → F.Holds w → L listed a F → wpAny P .any ops Q' g listed a w) :
    ∀ (f : Nat) (listed : Array Bool) (a : Act) (F : Gx) (w : World), p.R w0 w → F.Holds w → StableF p F → wpAnyC p P ops S fr w0 n L f listed a F → wpAny P .any ops Q' (f + g) listed a w
  | 0, listed, a, F, w, he, hF, _, h => by rw [Nat.zero_add]; exact hL _ _ _ _ he hF h
  | f + 1, listed, a, F, w, he, hF, hst, h => by
    rw [show f + 1 + g = (f + g) + 1 by omega]
    exact ⟨fun h0 => absurd h0 h.1, fun i hi => wpOp_of_cOp hS he hF hst (fun a' F' w' he' hF' hst' h' => wpAny_of_headC hS hL f _ a' F' w' he' hF' hst' h') (h.2 i hi).2⟩

theorem wpAnyC_first {n i : Nat} {oi : Oper} {L : Array Bool → Act → Gx → Prop} (hS : StableS p S) (hi : ops[i]? = some oi) (hsel : ∀ (j : Nat) (o : Oper) cs b, ops[j]? = some o → o.op ≠ .select cs b)
    (htail : ∀ listed, HeadInv .any ops n listed → ∀ i, i < n → listed.getD i true = false → ∀ t, n ≤ t → t ∉ Region.ready .any ops listed) (hin : i < n)
    (hdone : ∀ listed a F, L listed a F → ∀ j ∈ Region.ready .any ops listed, n ≤ j) :
    ∀ (f : Nat) (listed : Array Bool) (a : Act) (F : Gx), HeadInv .any ops n listed →
      (∀ j oj, ops[j]? = some oj → j ≠ i → listed.getD j true = false → (∀ e ∈ oj.after, Region.binds .any e = true → e.on ≠ i) → oi.apart ops oj = true) →
      i ∈ Region.ready .any ops listed → Sat p w0 F → StableF p F → YC p P ops S fr w0 i oi a F →
      Cont p P ops S fr w0 i oi a F (wpAnyC p P ops S fr w0 n L f (listed.setIfInBounds i true)) → wpAnyC p P ops S fr w0 n L (f + 1) listed a F := by
  intro f
  induction f with
  | zero =>
    intro listed a F inv _ hr hsat hst hy H
    have hun := (mem_ready.1 hr).1
    refine ⟨fun h => (by rw [h] at hr; cases hr), fun j hj => ?_⟩
    have hjn : j < n := by
      rcases Nat.lt_or_ge j n with h | h
      · exact h
      · exact absurd hj (htail listed inv i hin hun j h)
    refine ⟨hjn, ?_⟩
    by_cases hji : j = i
    · subst hji; exact ⟨oi, hi, hy, H⟩
    · exfalso
      have hL : ∃ a' F', L (listed.setIfInBounds i true) a' F' := by
        cases hw : Region.wanted oi (yielded ops a.tmps) with
        | true =>
          obtain ⟨w, he, hF⟩ := hsat
          obtain ⟨v, w', hx, hrel, hnew⟩ := exists_of_calm (fr := fr) (fj := facts ops F.F i) he (fun k _ => hF.1 k) (hy hw w he (fun k _ => hF.1 k))
          exact ⟨_, _, H.1 hw v (fun e => Far.of_new hF.2 (hnew e)) ⟨w', p.trans he hx, Gx.Holds.put hst hF hx hrel hnew⟩⟩
        | false => exact ⟨_, _, H.2 hw⟩
      obtain ⟨a', F', hl⟩ := hL
      have := hdone _ _ _ hl j (ready_mono hj hji)
      omega
  | succ f ih =>
    intro listed a F inv hfree hr hsat hst hy H
    have hun := (mem_ready.1 hr).1
    refine ⟨fun h => (by rw [h] at hr; cases hr), fun j hj => ?_⟩
    have hjn : j < n := by
      rcases Nat.lt_or_ge j n with h | h
      · exact h
      · exact absurd hj (htail listed inv i hin hun j h)
    refine ⟨hjn, ?_⟩
    by_cases hji : j = i
    · subst hji; exact ⟨oi, hi, hy, H⟩
    · obtain ⟨hjun, oj, hoj, hall⟩ := mem_ready.1 hj
      have hnot : ∀ e ∈ oj.after, Region.binds .any e = true → e.on ≠ i := fun e he hb heq => by
        have h1 := hall e he hb
        rw [heq, getD_both hun] at h1
        cases h1
      obtain ⟨p1, p2, p3⟩ := Oper.apart_spec (hfree j oj hoj hji hjun hnot)
      have hsi := fun cs b => hsel i oi cs b hi
      have hsj := fun cs b => hsel j oj cs b hoj
      have bji : befB ops 3 j i = false := not_bef inv hj hun
      have bij : befB ops 3 i j = false := not_bef inv hr hjun
      -- what the head's continuation says of operation j behind operation i, at whatever value
      have after_i : ∀ a' F', wpAnyC p P ops S fr w0 n L (f + 1) (listed.setIfInBounds i true) a' F' → YC p P ops S fr w0 j oj a' F' ∧ Cont p P ops S fr w0 j oj a' F' (wpAnyC p P ops S fr w0 n L f ((listed.setIfInBounds i true).setIfInBounds j true)) := by
        intro a' F' h
        obtain ⟨_, o, ho, h1, h2⟩ := h.2 j (ready_mono hj hji)
        have : o = oj := Option.some.inj (ho.symm.trans hoj)
        subst this
        exact ⟨h1, h2⟩
      have wj : ∀ u, Region.wanted oj (yielded ops (a.put oi.dst u).tmps) = Region.wanted oj (yielded ops a.tmps) := fun u => wanted_put oj a oi.dst u p1
      have xj : ∀ u, execOp (a.put oi.dst u).eval oj = execOp a.eval oj := fun u => execOp_put oj hsj a oi.dst u p1
      have wi : ∀ u, Region.wanted oi (yielded ops (a.put oj.dst u).tmps) = Region.wanted oi (yielded ops a.tmps) := fun u => wanted_put oi a oj.dst u p3
      have xi : ∀ u, execOp (a.put oj.dst u).eval oi = execOp a.eval oi := fun u => execOp_put oi hsi a oj.dst u p3
      -- operation j yields now, too
      have yj : YC p P ops S fr w0 j oj a F := by
        intro hwj
        cases hw : Region.wanted oi (yielded ops a.tmps) with
        | true =>
          obtain ⟨w, he, hF⟩ := hsat
          obtain ⟨v, w', hx, hrel, hnew⟩ := exists_of_calm (fr := fr) (fj := facts ops F.F i) he (fun k _ => hF.1 k) (hy hw w he (fun k _ => hF.1 k))
          have h1 := (after_i _ _ (H.1 hw v (fun e => Far.of_new hF.2 (hnew e)) ⟨w', p.trans he hx, Gx.Holds.put hst hF hx hrel hnew⟩)).1
          unfold YC Gx.put at h1
          rw [wj, xj, facts_put bji] at h1
          exact h1 hwj
        | false =>
          have h1 := (after_i _ _ (H.2 hw)).1
          unfold YC at h1
          rw [wj, xj] at h1
          exact h1 hwj
      have hfree' : ∀ k ok, ops[k]? = some ok → k ≠ i → (listed.setIfInBounds j true).getD k true = false →
          (∀ e ∈ ok.after, Region.binds .any e = true → e.on ≠ i) → oi.apart ops ok = true := fun k ok hk hki hun' hno => by
        refine hfree k ok hk hki ?_ hno
        by_cases hjk : j = k
        · subst hjk; exact hjun
        · rw [getD_set_ne true hjk] at hun'; exact hun'
      refine ⟨oj, hoj, yj, fun hwj u hfu hsu => ?_, fun hwj => ?_⟩
      · -- operation j is taken, with u
        generalize hFj : F.put fr j (Rel p P w0 (execOp a.eval oj) (facts ops F.F j) (S j) u) u = Fj at *
        have hfi : facts ops Fj.F i = facts ops F.F i := by rw [← hFj]; exact facts_put bij
        have hstj : StableF p Fj := by rw [← hFj]; exact hst.put (rel_stable hS)
        refine ih (listed.setIfInBounds j true) (a.put oj.dst u) Fj (inv.set hj hjn) hfree' (ready_mono hr (Ne.symm hji)) hsu hstj ?_ ⟨fun hwi v hfv hsv => ?_, fun hwi => ?_⟩
        · unfold YC
          rw [wi, xi, hfi]
          exact hy
        · rw [wi] at hwi
          rw [xi, hfi] at hsv ⊢
          obtain ⟨w, he, hw⟩ := hsv
          have hfv1 : fr i = true → Far F.V v := fun e x hx => hfv e x (by rw [← hFj]; exact .inl hx)
          have hwF : ∀ k, F.F k w := fun k => by have := (hw.1 k).1; rw [← hFj] at this; exact this.1
          have hwj' : Rel p P w0 (execOp a.eval oj) (facts ops F.F j) (S j) u w := by have := (hw.1 j).1; rw [← hFj] at this; exact this.2 rfl
          have hwi' : Rel p P w0 (execOp a.eval oi) (facts ops F.F i) (S i) v w := (hw.1 i).2 rfl
          have hin : InW ((F.V.put fr j u).put fr i v) w := by have := hw.2; rw [← hFj] at this; exact this
          have hsi : Sat p w0 (F.put fr i (Rel p P w0 (execOp a.eval oi) (facts ops F.F i) (S i) v) v) := by
            refine ⟨w, he, fun k => ⟨hwF k, fun _ => hwi'⟩, fun x hx => hin x ?_⟩
            rcases hx with hx | hx
            · exact .inl (.inl hx)
            · exact .inr hx
          have h2 := (after_i _ _ (H.1 hwi v hfv1 hsi)).2.1
          have hff : facts ops (F.put fr i (Rel p P w0 (execOp a.eval oi) (facts ops F.F i) (S i) v) v).F j = facts ops F.F j := facts_put bji
          rw [wj, xj, hff] at h2
          have hcomm : ((F.put fr i (Rel p P w0 (execOp a.eval oi) (facts ops F.F i) (S i) v) v).put fr j (Rel p P w0 (execOp a.eval oj) (facts ops F.F j) (S j) u) u) = Fj.put fr i (Rel p P w0 (execOp a.eval oi) (facts ops F.F i) (S i) v) v := by
            rw [Gx.put_comm, hFj]
          have h3 := h2 hwj u (fun e => Far.put (hfu e) (fun ei hev => hfv ei u (by rw [← hFj]; exact .inr ⟨e, rfl⟩) hev.symm)) (by rw [hcomm]; exact ⟨w, he, hw⟩)
          rw [hcomm] at h3
          rw [Array.setIfInBounds_comm _ _ hji, Act.put_comm a u v (fun d hd hd' => p2 d hd' hd)]
          exact h3
        · rw [wi] at hwi
          have h2 := (after_i _ _ (H.2 hwi)).2.1
          rw [wj, xj] at h2
          have h3 := h2 hwj u hfu (by rw [hFj]; exact hsu)
          rw [hFj] at h3
          rw [Array.setIfInBounds_comm _ _ hji, Act.put_comm a u undef (fun d hd hd' => p2 d hd' hd)]
          exact h3
      · refine ih (listed.setIfInBounds j true) (a.put oj.dst undef) F (inv.set hj hjn) hfree' (ready_mono hr (Ne.symm hji)) hsat hst ?_ ⟨fun hwi v hfv hsv => ?_, fun hwi => ?_⟩
        · unfold YC
          rw [wi, xi]
          exact hy
        · rw [wi] at hwi
          rw [xi] at hsv ⊢
          have h2 := (after_i _ _ (H.1 hwi v hfv hsv)).2.2
          rw [wj] at h2
          have h3 := h2 hwj
          rw [Array.setIfInBounds_comm _ _ hji, Act.put_comm a undef v (fun d hd hd' => p2 d hd' hd)]
          exact h3
        · rw [wi] at hwi
          have h2 := (after_i _ _ (H.2 hwi)).2.2
          rw [wj] at h2
          have h3 := h2 hwj
          rw [Array.setIfInBounds_comm _ _ hji, Act.put_comm a undef undef (fun d hd hd' => p2 d hd' hd)]
          exact h3
end

/-! ### The order of the text, and a tail that is forced -/

section
variable {p : Pre} {P : Program} {ops : Array Oper} {S : Spec} {fr : Nat → Bool} {w0 : World}

theorem Cont.sat {K K' : Act → Gx → Prop} {j : Nat} {o : Oper} {a : Act} {F : Gx} (hS : StableS p S) (hst : StableF p F) (h : ∀ a F, Sat p w0 F → StableF p F → K a F → K' a F) (hs : Sat p w0 F) (hc : Cont p P ops S fr w0 j o a F K) : Cont p P ops S fr w0 j o a F K' :=
  ⟨fun hw v hf hv => h _ _ hv (hst.put (rel_stable hS)) (hc.1 hw v hf hv), fun hw => h _ _ hs hst (hc.2 hw)⟩

theorem wpAnyC_lex {n g : Nat} {Lq : Act → Gx → Prop} (hS : StableS p S) (hsel : Region.noSelect ops = true)
    (htail : ∀ listed, HeadInv .any ops n listed → ∀ i, i < n → listed.getD i true = false → ∀ t, n ≤ t → t ∉ Region.ready .any ops listed) :
    ∀ (l : List Oper) (k : Nat) (listed : Array Bool) (a : Act) (F : Gx), (∀ j, j < l.length → l[j]? = ops[k + j]?) → k + l.length = n → HeadInv .any ops n listed →
    Region.lexHead .any ops g l.length k listed = true → Sat p w0 F → StableF p F → wpCalm p P ops S fr w0 Lq l k a F →
    wpAnyC p P ops S fr w0 n (fun listed' a' F' => Region.seqB .any ops g n listed' = true ∧ Lq a' F') l.length listed a F
  | [], k, listed, a, F, _, hk, _, hB, _, _, h => by
    have : k = n := by simpa using hk
    subst this
    exact ⟨by simpa [Region.lexHead] using hB, h⟩
  | o :: l, k, listed, a, F, hl, hk, inv, hB, hs, hst, h => by
    have h0 : ops[k]? = some o := by simpa using (hl 0 (by simp)).symm
    simp only [List.length_cons, Region.lexHead, Bool.and_eq_true] at hB
    obtain ⟨⟨hr, hf⟩, hB'⟩ := hB
    have hkn : k < n := by simp only [List.length_cons] at hk; omega
    have hr' : k ∈ Region.ready .any ops listed := by simpa using hr
    refine wpAnyC_first hS h0 (Region.noSelect_spec hsel) htail hkn (fun listed' a' F' hL => seqB_ready hL.1) l.length listed a F inv (Region.free_spec h0 hf) hr' hs hst h.1 ?_
    exact Cont.sat hS hst (fun a' F' hs' hst' hK => wpAnyC_lex hS hsel htail l (k + 1) _ a' F' (fun j hj => by have := hl (j + 1) (by simp; omega); simpa [Nat.add_assoc, Nat.add_comm 1 j] using this)
      (by simp only [List.length_cons] at hk; omega) (inv.set hr' hkn) hB' hs' hst' hK) hs h.2

theorem wp_region_calm {id : Nat} {Q : Exit → Act → World → Prop} {a : Act} {w : World} {l : List Oper} (n : Nat) (S : Spec) (hS : StableS p S) (hm : P.follows .mixedOrders = true) (hB : calmB l.toArray n = true)
    (h : wpCalm p P l.toArray S fr w (fun a' F => ∀ w', p.R w w' → F.Holds w' → wpList P l.toArray Q (l.drop n) a' w') (l.take n) 0 a ⟨fun _ _ => True, fun _ => False⟩) : (Code.region id l.toArray true).wp P Q a w := by
  simp only [calmB, Bool.and_eq_true, Bool.or_eq_true, decide_eq_true_eq] at hB
  obtain ⟨⟨hsel, hn⟩, hlex⟩ := hB
  have hn' : n ≤ l.length := by
    rcases hn with h1 | h1
    · rw [h1]; simp
    · have := h1.1.1; simp at this; omega
  have htl : (l.take n).length = n := by simp; omega
  have hdl : (l.drop n).length = l.toArray.size - n := by simp
  have htail := calm_tail (ops := l.toArray) (n := n) (by rcases hn with h1 | h1; exact .inl h1; exact .inr ⟨h1.1.1, h1.1.2, h1.2⟩)
  have inv0 : HeadInv .any l.toArray n (Array.replicate l.toArray.size false) :=
    ⟨by simp, fun j oj _ hl => (by rw [getD_replicate_false] at hl; cases hl), fun t _ ht => getD_in (by simpa using ht) (getD_replicate_false _ _)⟩
  have H := wpAnyC_lex (g := l.toArray.size - n) hS hsel htail (l.take n) 0 _ a ⟨fun _ _ => True, fun _ => False⟩ (fun j hj => by
    have hj' : j < n := by rw [htl] at hj; exact hj
    simp [hj']) (by simpa using htl) inv0 (by rw [htl]; exact hlex) ⟨w, p.refl _, fun _ => trivial, fun _ hx => hx.elim⟩ (show StableF p ⟨fun _ _ => True, fun _ => False⟩ from fun _ _ _ _ h => h) h
  refine wp_region_any hm ?_
  have := wpAny_of_headC (P := P) (ops := l.toArray) (S := S) (fr := fr) (w0 := w) (n := n) (Q' := Q) (g := l.toArray.size - n) hS (fun listed a' F w1 he hF hL => by
    have := wpAny_of_seq (md := .any) (Q' := Q) (l.drop n) n listed a' w1 (fun j => by simp [List.getElem?_drop]) (by rw [hdl]; exact hL.1) (hL.2 w1 he hF)
    rwa [hdl] at this) (l.take n).length (Array.replicate l.toArray.size false) a ⟨fun _ _ => True, fun _ => False⟩ { w with drawn := w.drawn + 1 } (p.drawn (p.refl w) _) ⟨fun _ => trivial, fun _ hx => hx.elim⟩ (show StableF p ⟨fun _ _ => True, fun _ => False⟩ from fun _ _ _ _ h => h) H
  rw [htl, show n + (l.toArray.size - n) = l.toArray.size by omega] at this
  exact this

/-! ### Steps -/

/-- More is known. -/
structure Le (F F' : Gx) : Prop where
  ff : ∀ k w, F'.F k w → F.F k w
  vv : ∀ u, F.V u → F'.V u
def MonoQ (Q : Act → Gx → Prop) : Prop := ∀ a F F', Le F F' → Q a F → Q a F'
theorem Le.holds {F F' : Gx} (h : Le F F') {w : World} (hw : F'.Holds w) : F.Holds w := ⟨fun k => h.ff _ _ (hw.1 k), fun u hu => hw.2 u (h.vv u hu)⟩
theorem Le.far {F F' : Gx} (h : Le F F') {v : Value} (hv : Far F'.V v) : Far F.V v := fun u hu => hv u (h.vv u hu)
theorem Le.put_self (F : Gx) (k : Nat) (T : World → Prop) (v : Value) : Le F (F.put fr k T v) := ⟨fun _ _ h => h.1, fun _ h => .inl h⟩

theorem wpCalm_mono {Q : Act → Gx → Prop} (hQ : MonoQ Q) : ∀ (l : List Oper) (k : Nat) (a : Act) (F F' : Gx), Le F F' → wpCalm p P ops S fr w0 Q l k a F → wpCalm p P ops S fr w0 Q l k a F'
  | [], _, a, F, F', h, hh => hQ a F F' h hh
  | o :: l, k, a, F, F', h, ⟨hy, hn⟩ => by
    have hf : ∀ w, facts ops F'.F k w → facts ops F.F k w := fun w hf i hi => h.ff _ _ (hf i hi)
    have hr : ∀ v w, Rel p P w0 (execOp a.eval o) (facts ops F'.F k) (S k) v w → Rel p P w0 (execOp a.eval o) (facts ops F.F k) (S k) v w := fun v w ⟨w1, h1, h2, h3⟩ => ⟨w1, h1, hf _ h2, h3⟩
    have hp : ∀ v, Le (F.put fr k (Rel p P w0 (execOp a.eval o) (facts ops F.F k) (S k) v) v) (F'.put fr k (Rel p P w0 (execOp a.eval o) (facts ops F'.F k) (S k) v) v) :=
      fun v => ⟨fun i w hh => ⟨h.ff _ _ hh.1, fun e => hr _ _ (hh.2 e)⟩, fun u hu => hu.elim (fun x => .inl (h.vv u x)) .inr⟩
    exact ⟨fun hw w he hf' => hy hw w he (hf w hf'), fun hw v hfar ⟨w, he, hs⟩ => wpCalm_mono hQ l (k + 1) _ _ _ (hp v) (hn.1 hw v (fun e => h.far (hfar e)) ⟨w, he, (hp v).holds hs⟩), fun hw => wpCalm_mono hQ l (k + 1) _ _ _ h (hn.2 hw)⟩

theorem calm_mono_final {Q : Act → World → Prop} : MonoQ (fun a F => ∀ w', p.R w0 w' → F.Holds w' → Q a w') := fun _ _ _ h hq w' he hF => hq w' he (h.holds hF)

def quietAll (fr : Nat → Bool) : List Oper → Nat → Bool
  | [], _ => true
  | o :: l, k => quietKind o && !fr k && quietAll fr l (k + 1)

/-- Operations that leave the world alone: by the quiet walk, in the class of all worlds that hold what b holds. -/
theorem calm_chunk {Q : Act → Gx → Prop} (hQ : MonoQ Q) (b : World) (hb : ∀ w, p.R w0 w → Ext b w) : ∀ (l l2 : List Oper) (k : Nat) (a : Act) (F : Gx), quietAll fr l k = true →
    wpQuiet P ops (fun w => ∃ x : Later b, w = x.w) (fun a' => wpCalm p P ops S fr w0 Q l2 (k + l.length) a' F) l a → wpCalm p P ops S fr w0 Q (l ++ l2) k a F := by
  intro l
  induction l with
  | nil => intro l2 k a F _ h; exact h
  | cons o l ih =>
    intro l2 k a F hk h
    simp only [quietAll, Bool.and_eq_true, Bool.not_eq_true'] at hk
    obtain ⟨⟨hk1, hk2⟩, hk3⟩ := hk
    unfold wpQuiet at h
    have hlen : k + (o :: l).length = (k + 1) + l.length := by simp only [List.length_cons]; omega
    rw [hlen] at h
    cases hw : Region.wanted o (yielded ops a.tmps) with
    | true =>
      rw [hw, if_pos rfl] at h
      obtain ⟨v, h1, h2⟩ := h
      refine ⟨fun _ w he _ => ?_, fun _ u _ hu => ?_, fun hf => by rw [hw] at hf; cases hf⟩
      · have h3 := h1 w ⟨⟨w, hb w he⟩, rfl⟩
        have hne := noEnter_of_quietKind (P := P) hk1 a.eval w
        unfold Oper.quietAt at h3
        generalize (execOp a.eval o).run P w = r at *
        cases r with
        | ok n w' =>
          cases n <;> simp only [Oper.quietUpon] at h3 <;> simp only [calmUpon]
          case value x => obtain ⟨e, _⟩ := h3; rw [e]; exact ⟨p.refl _, fun e => by rw [hk2] at e; cases e⟩
          case skip => obtain ⟨e, _⟩ := h3; rw [e]; exact ⟨p.refl _, hk2⟩
          case enter f args => exact hne.elim
        | halt x w' => simp only [Oper.quietUpon] at h3
      · obtain ⟨w, he, hs⟩ := hu
        obtain ⟨w1, he1, _, hg⟩ := (hs.1 k).2 rfl
        have h3 := h1 w1 ⟨⟨w1, hb w1 he1⟩, rfl⟩
        have hne := noEnter_of_quietKind (P := P) hk1 a.eval w1
        have huv : u = v := by
          unfold Oper.quietAt at h3
          generalize (execOp a.eval o).run P w1 = r at *
          cases r with
          | ok n w' =>
            cases n <;> simp only [Oper.quietUpon] at h3 <;> simp only [gives] at hg
            case value x => rw [hg.1, h3.2]
            case skip => rw [hg.1, h3.2]
            case enter f args => exact hne.elim
          | halt x w' => simp only [Oper.quietUpon] at h3
        subst huv
        exact wpCalm_mono hQ _ _ _ F _ (Le.put_self F k _ _) (ih l2 (k + 1) _ F hk3 h2)
    | false =>
      rw [hw] at h
      exact ⟨fun hf => (by rw [hw] at hf; cases hf), fun hf => (by rw [hw] at hf; cases hf), fun _ => ih l2 (k + 1) _ F hk3 h⟩

theorem calm_nil {Q : Act → Gx → Prop} {k : Nat} {a : Act} {F : Gx} (h : Q a F) : wpCalm p P ops S fr w0 Q [] k a F := h

/-- A call of a Go function: its result is any value that S lets by. -/
theorem calm_call {Q : Act → Gx → Prop} {o : Oper} {l : List Oper} {k : Nat} {a : Act} {F : Gx} (hQ : MonoQ Q) (f : FuncId) (args : Array Value) (hw : Region.wanted o (yielded ops a.tmps) = true)
    (hrun : ∀ w, (execOp a.eval o).run P w = .ok (.enter f args) w)
    (hcall : ∀ w, p.R w0 w → facts ops F.F k w → Calls P f args w (fun e w'' => ∃ v, e = .returned v ∧ p.R w w'' ∧ S k args v w'' ∧ (fr k = true → New v w w'')))
    (hn : ∀ v w', p.R w0 w' → S k args v w' → (fr k = true → Far F.V v) → wpCalm p P ops S fr w0 Q l (k + 1) (a.put o.dst v) (F.put fr k (S k args v) v)) : wpCalm p P ops S fr w0 Q (o :: l) k a F := by
  refine ⟨fun _ w he hf => ?_, fun _ v hfar hv => ?_, fun hf => by rw [hw] at hf; cases hf⟩
  · rw [hrun]; exact hcall w he hf
  · have hS : ∀ w', Rel p P w0 (execOp a.eval o) (facts ops F.F k) (S k) v w' → S k args v w' := fun w' ⟨w1, _, _, h⟩ => by rw [hrun] at h; exact h
    obtain ⟨w', he, hs⟩ := hv
    exact wpCalm_mono hQ _ _ _ (F.put fr k (S k args v) v) _ ⟨fun i w h => ⟨h.1, fun e => hS _ (h.2 e)⟩, fun u h => h⟩ (hn v w' he (hS _ ((hs.1 k).2 rfl)) hfar)

/-- An operation that makes a value, and may make memory: T is what is said of it. -/
theorem calm_value {Q : Act → Gx → Prop} {o : Oper} {l : List Oper} {k : Nat} {a : Act} {F : Gx} (hQ : MonoQ Q) (T : Value → World → Prop) (hT : ∀ v w w', p.R w w' → T v w → T v w') (hw : Region.wanted o (yielded ops a.tmps) = true)
    (hrun : ∀ w, p.R w0 w → facts ops F.F k w → ∃ v w', (execOp a.eval o).run P w = .ok (.value v) w' ∧ p.R w w' ∧ T v w' ∧ (fr k = true → New v w w'))
    (hn : ∀ v w', p.R w0 w' → T v w' → (fr k = true → Far F.V v) → wpCalm p P ops S fr w0 Q l (k + 1) (a.put o.dst v) (F.put fr k (T v) v)) : wpCalm p P ops S fr w0 Q (o :: l) k a F := by
  refine ⟨fun _ w he hf => ?_, fun _ v hfar hv => ?_, fun hf => by rw [hw] at hf; cases hf⟩
  · obtain ⟨u, w', hr, hR, _, hnew⟩ := hrun w he hf
    rw [hr]
    exact ⟨hR, hnew⟩
  · have hS : ∀ w', Rel p P w0 (execOp a.eval o) (facts ops F.F k) (S k) v w' → T v w' := fun w' ⟨w1, h1, h2, h⟩ => by
      obtain ⟨u, w2, hr, _, ht, _⟩ := hrun w1 h1 h2
      rw [hr] at h
      obtain ⟨rfl, hx⟩ := h
      exact hT _ _ _ hx ht
    obtain ⟨w', he, hs⟩ := hv
    exact wpCalm_mono hQ _ _ _ (F.put fr k (T v) v) _ ⟨fun i w h => ⟨h.1, fun e => hS _ (h.2 e)⟩, fun u h => h⟩ (hn v w' he (hS _ ((hs.1 k).2 rfl)) hfar)

/-- The chunk, with its number of operations. -/
theorem calm_quiet {Q : Act → Gx → Prop} (hQ : MonoQ Q) (b : World) (hb : ∀ w, p.R w0 w → Ext b w) (m : Nat) {l : List Oper} {k : Nat} {a : Act} {F : Gx} (hk : quietAll fr (l.take m) k = true)
    (h : wpQuiet P ops (fun w => ∃ x : Later b, w = x.w) (fun a' => wpCalm p P ops S fr w0 Q (l.drop m) (k + (l.take m).length) a' F) (l.take m) a) : wpCalm p P ops S fr w0 Q l k a F := by
  rw [← List.take_append_drop m l]
  exact calm_chunk hQ b hb _ _ _ _ _ hk h
end

/-- The growth of worlds that hold all that was there. -/
def extPre : Pre := ⟨Ext, Ext.refl, Ext.trans, fun h n => h.drawn n, fun h => h.le⟩
end Cf
end Go.Proofs.Ytbclbcldplmppaa

/- A train is valid, by the reference. -/
namespace Go.Proofs.Ytbclbcldplmppaa
open Go.RowKit

theorem trainB_good {s : Int} {ms : List Msh} (h : 1 ≤ s ∧ s ≤ 8 ∧ ms.length ≤ 16) (h' : ∀ k (hk : k < ms.length), validB ms[k] s = true) : true = trainB s ms :=
  (decide_eq_true (⟨h.1, h.2.1, h.2.2, h'⟩ : trainP s ms)).symm
theorem trainB_bad {s : Int} {ms : List Msh} (h : ¬ (1 ≤ s ∧ s ≤ 8 ∧ ms.length ≤ 16)) : false = trainB s ms :=
  (decide_eq_false (fun h' : trainP s ms => h ⟨h'.1, h'.2.1, h'.2.2.1⟩)).symm
theorem trainB_bad2 {s : Int} {ms : List Msh} {k : Nat} (hk : k < ms.length) (h : validB ms[k] s = false) : false = trainB s ms :=
  (decide_eq_false (fun h' : trainP s ms => by have := h'.2.2.2 k hk; rw [h] at this; cases this)).symm

set_option maxRecDepth 100000 in
set_option maxHeartbeats 2000000 in
theorem train_ref (A : Option Addr) (c : Nat) (s : Int) (ms : List Msh) (w : World) (hA : MRow w A ms) (hl : ms.length ≤ 1000000) :
    Calls Try.prog 45 #[.agg #[.int .i64 s, .slice A ms.length c]] w fun e w' => e = .returned (.bool (trainB s ms)) ∧ Ext w w' := by
  have ha := fun k (hk : k < ms.length) => hA.at_ hk
  have cv := fun (h1 : 1 ≤ s) (h8 : s ≤ 8) (x : Msh) (w' : World) => valid_ref x s w' h1 h8
  have hgood := trainB_good (s := s) (ms := ms)
  have hbad := trainB_bad (s := s) (ms := ms)
  have hbad2 := fun k (hk : k < ms.length) => trainB_bad2 (s := s) hk
  have Ha := Lib.hid ha
  have Hgood := Lib.hid hgood
  have Hbad := Lib.hid hbad
  have Hbad2 := Lib.hid hbad2
  clear ha hgood hbad hbad2 hA
  generalize trainB s ms = res at *
  obtain ⟨m, hm⟩ : ∃ m, m = ms.length := ⟨_, rfl⟩
  rw [← hm]
  rw [← hm] at hl
  by_cases h : 1 ≤ s ∧ s ≤ 8 ∧ m ≤ 16
  · have Hm := Lib.hid hm
    have Hh := Lib.hid h
    obtain ⟨h1, h8, hm16⟩ := h
    have Cv := Lib.hid (cv h1 h8)
    clear hm cv
    have hw : withinB s 1 8 = true := withinB_true.2 ⟨h1, h8⟩
    go_enter Try.func45, Try.ntmps45
    go_wp2_with (go_at_call 54; refine (within_any _ _ _ _).mono ?_; rintro e w' ⟨rfl, rfl⟩)
    have hp0 : ∀ w', Ext (w.alloc (.cells #[.int .i64 s, .slice A m c] 41)) w' → w'.cell? ⟨w.heap.size, 0, none⟩ = some (.int .i64 s) := fun w' he => he.cell (by simp)
    have hp1 : ∀ w', Ext (w.alloc (.cells #[.int .i64 s, .slice A m c] 41)) w' → w'.cell? ⟨w.heap.size, 1, none⟩ = some (.slice A m c) := fun w' he => he.cell (by simp)
    have hex0 : Ext w (w.alloc (.cells #[.int .i64 s, .slice A m c] 41)) := by simp
    generalize hw0 : w.alloc (.cells #[.int .i64 s, .slice A m c] 41) = w0 at *
    have Hp0 := Lib.hid hp0
    have Hp1 := Lib.hid hp1
    have Hex0 := Lib.hid hex0
    clear hp0 hp1 hex0 hw0 hw
    go_loopw [3] (fun i wr => ∃ k : Nat, k ≤ m ∧ i = .int .i64 k ∧ Ext w0 wr ∧ ∀ j (hj : j < ms.length), j < k → validB ms[j] s = true) (fun i _ => m - (intOf i).toNat)
    case atStart => exact ⟨0, by omega, rfl, Ext.refl _, fun j _ hj => by omega⟩
    case round =>
      obtain ⟨k, hk, rfl, hex, hall⟩ := hrel
      have Hall := Lib.hid hall
      clear hall
      have hp0 : ∀ w', Ext wr w' → w'.cell? ⟨w.heap.size, 0, none⟩ = some (.int .i64 s) := fun w' he => Hp0.out w' (hex.trans he)
      have hp1 : ∀ w', Ext wr w' → w'.cell? ⟨w.heap.size, 1, none⟩ = some (.slice A m c) := fun w' he => Hp1.out w' (hex.trans he)
      by_cases hlt : k < m
      · have hkp : k < ms.length := by rw [← Hm.out]; exact hlt
        obtain ⟨ad, rfl, q0, q1, q2, q3, q4, q5⟩ := Ha.out k hkp
        have hexw := Hex0.out.trans hex
        have q0 : ∀ w', Ext wr w' → _ := fun w' he => q0 w' (hexw.trans he)
        have q1 : ∀ w', Ext wr w' → _ := fun w' he => q1 w' (hexw.trans he)
        have q2 : ∀ w', Ext wr w' → _ := fun w' he => q2 w' (hexw.trans he)
        have q3 : ∀ w', Ext wr w' → _ := fun w' he => q3 w' (hexw.trans he)
        have q4 : ∀ w', Ext wr w' → _ := fun w' he => q4 w' (hexw.trans he)
        have q5 : ∀ w', Ext wr w' → _ := fun w' he => q5 w' (hexw.trans he)
        have cv := Cv.out ms[k]
        have hbad2 := Hbad2.out k hkp
        have hstep : validB ms[k] s = true → ∀ j (hj : j < ms.length), j < k + 1 → validB ms[j] s = true := fun h j hj hjk => by
          by_cases e : j = k
          · subst e; exact h
          · exact Hall.out j hj (by omega)
        simp only [Msh.val] at cv
        have Cv' := Lib.hid cv
        have Hst := Lib.hid hstep
        have Hb := Lib.hid hbad2
        clear hstep cv hbad2
        generalize validB ms[k] s = vb at *
        generalize ms[k] = x at *
        obtain ⟨kind, a, b, c3, n, m3⟩ := x
        simp only at q0 q1 q2 q3 q4 q5
        go_wp2
        refine wp_region_calm 9 (fun _ _ v _ => v = .bool vb) (fun _ _ _ _ _ _ h => h) (by kernel_rfl) (by kernel_rfl) ?_
        simp only [List.take_succ_cons, List.take_zero, List.drop_succ_cons, List.drop_zero]
        refine calm_quiet calm_mono_final 7 (by kernel_rfl) ?_
        simp only [List.take_succ_cons, List.take_zero, List.drop_succ_cons, List.drop_zero]
        repeat (go_big_quiet_step (fail))
        refine wpQuiet_nil ?_
        refine calm_call calm_mono_final 90 #[.agg #[.int .u8 kind, vint a, vint b, vint c3, vint n, vint m3], .int .i64 s] rfl (fun w => ?_) (fun w he _ => ?_) ?_
        · go_simp
        · exact (Cv'.out _).mono fun e w'' ⟨he', hx⟩ => ⟨_, he', hx, rfl⟩
        intro v1 _ _ hv1
        have hv1' : v1 = .bool vb := hv1
        subst hv1'
        clear hv1
        simp only [Act.put, List.setIfInBounds_toArray, List.set_cons_succ, List.set_cons_zero]
        refine calm_quiet calm_mono_final 1 (by kernel_rfl) ?_
        simp only [List.take_succ_cons, List.take_zero, List.drop_succ_cons, List.drop_zero]
        repeat (go_big_quiet_step (fail))
        refine wpQuiet_nil ?_
        refine calm_nil fun w3 he3 hF => ?_
        clear hF
        cases vb
        · go_wp2
          go_ret
          exact ⟨ret_b (Hb.out trivial), hexw.trans he3⟩
        · go_wp2
          go_roundw
          case rel => exact ⟨k + 1, by omega, by go_num, hex.trans he3, Hst.out rfl⟩
          case measure => simp [intOf]; omega
      · go_wp2
        go_ret
        have hm := Hm.out
        exact ⟨ret_b (Hgood.out (by rw [← hm]; exact Hh.out) (fun j hj => Hall.out j hj (by omega))), Hex0.out.trans hex⟩
  · rw [hm] at h
    have hb := Hbad.out h
    have Hb := Lib.hid hb
    clear hb cv
    rw [← hm] at h
    clear hm
    by_cases hs : 1 ≤ s ∧ s ≤ 8
    · have hw : withinB s 1 8 = true := withinB_true.2 hs
      have hm : 16 < m := by omega
      go_enter Try.func45, Try.ntmps45
      go_wp2_with (go_at_call 54; refine (within_any _ _ _ _).mono ?_; rintro e w' ⟨rfl, rfl⟩)
      go_ret
      exact ⟨ret_b Hb.out, by simp⟩
    · have hw : withinB s 1 8 = false := withinB_false.2 hs
      go_enter Try.func45, Try.ntmps45
      go_wp2_with (go_at_call 54; refine (within_any _ _ _ _).mono ?_; rintro e w' ⟨rfl, rfl⟩)
      go_ret
      exact ⟨ret_b Hb.out, by simp⟩

theorem check_ref (A : Option Addr) (c : Nat) (s : Int) (ms : List Msh) (w : World) (hA : MRow w A ms) (hl : ms.length ≤ 1000000) :
    Calls Try.prog 25 #[.agg #[.int .i64 s, .slice A ms.length c]] w fun e w' => e = .returned (.int .i64 (trainE s ms)) ∧ Ext w w' := by
  have cv := fun (w' : World) (he : Ext w w') => train_ref A c s ms w' (hA.ext he) hl
  have ht : trainE s ms = if trainB s ms = true then 0 else 40 := rfl
  have Cv := Lib.hid cv
  clear cv hA
  generalize trainE s ms = res at *
  generalize trainB s ms = vb at *
  generalize ms.length = m at *
  have Ht := Lib.hid ht
  clear ht
  cases vb
  all_goals
    go_enter Try.func25, Try.ntmps25
    go_wp2_with (go_at_call 45; refine (Cv.out _ (by simp)).mono ?_; rintro e w' ⟨rfl, hx⟩)
    go_ret
    exact ⟨ret_i (by have := Ht.out; simpa using this.symm), Ext.trans (by simp) hx⟩
end Go.Proofs.Ytbclbcldplmppaa

/- Tuple assignments to places of the call's own row: the kind of growth, and the steps. No program in sight. -/
namespace Go.Proofs.Ytbclbcldplmppaa
open Go.RowKit

section
variable (b : World) (g n : Nat) (L0 fin : List Int)
/-- The row at block g is the call's own since b, and holds at each place what L0 says, or what fin says. -/
def Mixed (w : World) : Prop := ∃ ys : List Int, Own b w 3 1 (.slice (some ⟨g, 0, none⟩) n n) n (ys.map vint) ∧ ∀ i, i < n → ys[i]? = L0[i]? ∨ ys[i]? = fin[i]?

def ownPre : Cw.Pre where
  R := fun w w' => Mixed b g n L0 fin w → (Mixed b g n L0 fin w' ∧ ∀ i, i < n → w.cell? ⟨g, i, none⟩ = (fin.map vint)[i]? → w'.cell? ⟨g, i, none⟩ = (fin.map vint)[i]?)
  refl := fun _ h => ⟨h, fun _ _ h => h⟩
  trans := fun h1 h2 h => ⟨(h2 (h1 h).1).1, fun i hi hc => (h2 (h1 h).1).2 i hi ((h1 h).2 i hi hc)⟩
  drawn := fun h n hm => ⟨by obtain ⟨ys, ho, hy⟩ := (h hm).1; exact ⟨ys, ho.later ((Ext.refl _).drawn _), hy⟩, fun i hi hc => (h hm).2 i hi hc⟩
end

section
variable {b : World} {g n : Nat} {L0 fin : List Int}
theorem Mixed.ext {w : World} (h : Mixed b g n L0 fin w) : Ext b w := h.choose_spec.1.ext
theorem Mixed.free {w : World} (h : Mixed b g n L0 fin w) (j : Nat) : w.frozen? ⟨g, j, none⟩ = false := h.choose_spec.1.free j
theorem Mixed.len {w : World} (h : Mixed b g n L0 fin w) : h.choose.length = n := by
  have := h.choose_spec.1.len
  simpa using this
theorem Mixed.cell {w : World} (h : Mixed b g n L0 fin w) {i : Nat} (hi : i < n) : ∃ y, w.cell? ⟨g, i, none⟩ = some (vint y) := by
  have hl := h.len
  refine ⟨h.choose[i]'(by omega), ?_⟩
  rw [h.choose_spec.1.cell (j := i) (by rw [List.length_map]; omega)]
  rw [List.getElem?_eq_getElem (by rw [List.length_map]; omega), List.getElem_map]
theorem Mixed.start {w : World} (h : Own b w 3 1 (.slice (some ⟨g, 0, none⟩) n n) n (L0.map vint)) : Mixed b g n L0 fin w := ⟨L0, h, fun _ _ => .inl rfl⟩
theorem Mixed.store {w : World} (h : Mixed b g n L0 fin w) {i : Nat} {x : Int} (hi : i < n) (hx : fin[i]? = some x) : Mixed b g n L0 fin (w.setCell ⟨g, i, none⟩ (vint x)) := by
  obtain ⟨ys, ho, hy⟩ := h
  have hl : ys.length = n := by have := ho.len; simpa using this
  refine ⟨ys.set i x, ?_, fun j hj => ?_⟩
  · rw [List.map_set]; exact ho.store i (vint x)
  · by_cases e : i = j
    · subst e
      rw [List.getElem?_set_self (by omega)]
      exact .inr hx.symm
    · rw [List.getElem?_set_ne e]
      exact hy j hj
theorem Mixed.setR {w : World} (h : Mixed b g n L0 fin w) {i : Nat} {x : Int} (hi : i < n) (hx : fin[i]? = some x) : (ownPre b g n L0 fin).R w (w.setCell ⟨g, i, none⟩ (vint x)) := fun _ => by
  refine ⟨h.store hi hx, fun j hj hc => ?_⟩
  obtain ⟨y, hy⟩ := h.cell hi
  by_cases e : i = j
  · subst e
    rw [World.cell?_setCell_same _ _ _ hy]
    rw [List.getElem?_map, hx]; rfl
  · rw [World.cell?_setCell_other _ _ _ _ (by simp)]
    exact hc
/-- At the end: what has been stored is there. -/
theorem Mixed.final {w : World} (h : Mixed b g n L0 fin w) (hl : fin.length = n) (hc : ∀ i, i < n → L0[i]? = fin[i]? ∨ w.cell? ⟨g, i, none⟩ = (fin.map vint)[i]?) :
    Own b w 3 1 (.slice (some ⟨g, 0, none⟩) n n) n (fin.map vint) := by
  obtain ⟨ys, ho, hy⟩ := h
  have hl' : ys.length = n := by have := ho.len; simpa using this
  have : ys = fin := by
    refine List.ext_getElem? fun i => ?_
    by_cases hi : i < n
    · rcases hc i hi with h1 | h1
      · rcases hy i hi with h2 | h2
        · rw [h2, h1]
        · exact h2
      · rw [ho.cell (j := i) (by rw [List.length_map]; omega)] at h1
        rw [List.getElem?_map, List.getElem?_map, List.getElem?_eq_getElem (by omega), List.getElem?_eq_getElem (by omega)] at h1
        rw [List.getElem?_eq_getElem (by omega), List.getElem?_eq_getElem (by omega)]
        simpa [vint] using h1
    · rw [List.getElem?_eq_none (by omega), List.getElem?_eq_none (by omega)]
  rw [← this]
  exact ho
/-- .. from the growth and the fact of a store. -/
theorem ownPre_stored {w0 w : World} (h : Mixed b g n L0 fin w0) {i : Nat} {x : Int} (hi : i < n) (hx : fin[i]? = some x)
    (hs : ∃ w1, (ownPre b g n L0 fin).R w0 w1 ∧ (ownPre b g n L0 fin).R (w1.setCell ⟨g, i, none⟩ (vint x)) w) : w.cell? ⟨g, i, none⟩ = (fin.map vint)[i]? := by
  obtain ⟨w1, h1, h2⟩ := hs
  have hm := (h1 h).1
  obtain ⟨y, hy⟩ := hm.cell hi
  refine (h2 (hm.store hi hx)).2 i hi ?_
  rw [World.cell?_setCell_same _ _ _ hy]
  rw [List.getElem?_map, hx]; rfl
end

def facS (x : Msh) (n : Nat) : List Int :=
  if x.kind = 1 then ((List.replicate n 0).set x.a.toNat x.n).set x.b.toNat x.m
  else if x.kind = 2 then ((List.replicate n 0).set x.a.toNat x.n).set x.b.toNat (-x.m)
  else if x.kind = 4 then (List.replicate n 0).set x.a.toNat 1
  else if x.kind = 5 then (((List.replicate n 0).set x.a.toNat 1).set x.b.toNat 1).set x.c.toNat (-2)
  else if x.kind = 6 then (((List.replicate n 0).set x.a.toNat x.n).set x.b.toNat x.m).set x.c.toNat (-(x.n + x.m))
  else ((List.replicate n 0).set x.a.toNat 1).set x.b.toNat (-1)
theorem facS_length (x : Msh) (n : Nat) : (facS x n).length = n := by
  unfold facS
  repeat' split
  all_goals simp
end Go.Proofs.Ytbclbcldplmppaa
