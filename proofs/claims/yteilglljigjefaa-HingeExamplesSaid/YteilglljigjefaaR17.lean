/- Corners to the left of edges: by the code. -/
import Derived.Test.YteilglljigjefaaR16
import Derived.Test.YteilglljigjefaaRows
import Derived.Test.YteilglljigjefaaR01
import Derived.ProofKit
import Derived.OpenShut
import Derived.ChangeOld
import Derived.Below
import Derived.Deep.Slices
import Derived.Deep.Fields
import Derived.ChangeSame
import Derived.Lib.SmallJoins
namespace Go.Proofs.Yteilglljigjefaa
open Go.RowKit
/-- The first corner to the left of an edge. -/
def idxC (c other : List Cn) (i : Nat) : Int := match other.findIdx? (fun o => decide (0 < eside c i o)) with
  | some k => k
  | none => -1
theorem idxC_at {c other : List Cn} {i k : Nat} (hk : k < other.length) (h : 0 < eside c i (cAt other k)) (hb : ∀ j, j < k → eside c i (cAt other j) ≤ 0) : (k : Int) = idxC c other i := by
  have : other.findIdx? (fun o => decide (0 < eside c i o)) = some k := by
    rw [List.findIdx?_eq_some_iff_getElem]
    refine ⟨hk, ?_, fun j hj => ?_⟩
    · rw [cAt_at hk] at h; simpa using h
    · have := hb j hj
      rw [cAt_at (by omega)] at this
      simpa using this
  rw [idxC, this]
theorem idxC_none {c other : List Cn} {i : Nat} (h : ∀ j, j < other.length → eside c i (cAt other j) ≤ 0) : (-1 : Int) = idxC c other i := by
  have : other.findIdx? (fun o => decide (0 < eside c i o)) = none := by
    rw [List.findIdx?_eq_none_iff]
    intro o ho
    obtain ⟨j, hj, rfl⟩ := List.getElem_of_mem ho
    have := h j hj
    rw [cAt_at hj] at this
    simpa using this
  rw [idxC, this]
theorem idxC_yes {c other : List Cn} {i : Nat} (h : 0 ≤ idxC c other i) : inAt c other i (idxC c other i) := by
  unfold idxC at h ⊢
  cases e : other.findIdx? (fun o => decide (0 < eside c i o)) with
  | none => rw [e] at h; simp at h
  | some k =>
    rw [e] at h
    obtain ⟨hk, hp, _⟩ := List.findIdx?_eq_some_iff_getElem.1 e
    refine ⟨by simp, by simpa using hk, ?_⟩
    simp only [Int.toNat_natCast]
    rw [cAt_at hk]
    simpa using hp
theorem idxC_no {c other : List Cn} {i : Nat} (h : idxC c other i < 0) : edgeOut c other i := by
  unfold idxC at h
  cases e : other.findIdx? (fun o => decide (0 < eside c i o)) with
  | some k => rw [e] at h; simp at h; omega
  | none =>
    intro o ho
    have := List.findIdx?_eq_none_iff.1 e o ho
    simp at this
    omega
theorem idxC_lt {c other : List Cn} {i : Nat} : -1 ≤ idxC c other i ∧ idxC c other i < other.length + 1 := by
  unfold idxC
  cases e : other.findIdx? (fun o => decide (0 < eside c i o)) with
  | none => simp; omega
  | some k =>
    obtain ⟨hk, _⟩ := List.findIdx?_eq_some_iff_getElem.1 e
    simp
    omega
theorem CnsOk.at_ {l : List Cn} (h : CnsOk l) {k : Nat} (hk : k < l.length) : CnOk (cAt l k) := by rw [cAt_at hk]; exact (h.ok k hk k hk).ca
theorem CnsOk.edge {l : List Cn} (h : CnsOk l) {i : Nat} (hi : i < l.length) : EdgeOk (cAt l i) (cAt l ((i + 1) % l.length)) := by
  have h1 : (i + 1) % l.length < l.length := Nat.mod_lt _ (by omega)
  rw [cAt_at hi, cAt_at h1]
  exact h.ok i hi _ h1
/-- What the closure sees. -/
structure InE (w : World) (g9 g2 g8 : Nat) (c : List Cn) (n i : Nat) (Ac : Option Addr) (cc : Nat) : Prop where
  a0 : ∀ w', Ext w w' → w'.cell? ⟨g9, 0, none⟩ = some (.int .i64 (cAt c i).at_.x)
  a1 : ∀ w', Ext w w' → w'.cell? ⟨g9, 1, none⟩ = some (.int .i64 (cAt c i).at_.y)
  a2 : ∀ w', Ext w w' → w'.cell? ⟨g9, 2, none⟩ = some (.int .i64 (cAt c i).d)
  s0 : ∀ w', Ext w w' → w'.cell? ⟨g2, 0, none⟩ = some (.slice Ac n cc)
  k0 : ∀ w', Ext w w' → w'.cell? ⟨g8, 0, none⟩ = some (.int .i64 i)
  row : CRow w Ac c
  len : c.length = n
  lt : i < n
  le : n ≤ 8
theorem InE.ext {w w' : World} {g9 g2 g8 : Nat} {c : List Cn} {n i : Nat} {Ac : Option Addr} {cc : Nat} (h : InE w g9 g2 g8 c n i Ac cc) (he : Ext w w') : InE w' g9 g2 g8 c n i Ac cc :=
  ⟨fun w2 h2 => h.a0 w2 (he.trans h2), fun w2 h2 => h.a1 w2 (he.trans h2), fun w2 h2 => h.a2 w2 (he.trans h2), fun w2 h2 => h.s0 w2 (he.trans h2), fun w2 h2 => h.k0 w2 (he.trans h2), h.row.ext he, h.len, h.lt, h.le⟩
set_option maxRecDepth 100000 in
set_option maxHeartbeats 4000000 in
theorem inside1_any (g9 g2 g8 : Nat) (c : List Cn) (n i : Nat) (Ac : Option Addr) (cc : Nat) (o : Cn) (w : World) (hE : InE w g9 g2 g8 c n i Ac cc) (hc : CnsOk c) (ho : CnOk o) :
    Calls Try.prog 111 #[o.val, .pointer (some ⟨g9, 0, none⟩), .pointer (some ⟨g2, 0, none⟩), .pointer (some ⟨g8, 0, none⟩)] w fun e w' => e = .returned (.bool (decide (0 < eside c i o))) ∧ Ext w w' := by
  obtain ⟨a0, a1, a2, s0, k0, hrow, hlen, hi, hn8⟩ := hE
  have hi1 : (i + 1) % n < n := Nat.mod_lt _ (by omega)
  obtain ⟨ad, rfl, q0, q1, q2⟩ := hrow.at_ (k := (i + 1) % n) (by omega)
  have hs := fun w' => side_any (cAt c i) (cAt c ((i + 1) % n)) o w' (by have := hc.edge (i := i) (by omega); rw [hlen] at this; exact this) ho
  rw [show sideC (cAt c i) (cAt c ((i + 1) % n)) o = eside c i o by unfold eside; rw [hlen]] at hs
  have Hs := Lib.hid hs
  have e2 : ((i : Int) + 1).tmod (n : Int) = (((i + 1) % n : Nat) : Int) := by
    rw [Int.tmod_eq_emod_of_nonneg (by omega)]; exact (by push_cast; rfl)
  have e3 : ((n : Int) = 0) = False := by simp; omega
  clear hs hrow hlen hc ho
  generalize (i + 1) % n = i1 at *
  generalize eside c i o = D at *
  generalize cAt c i = a at *
  generalize cAt c i1 = b at *
  obtain ⟨⟨ax, ay⟩, az⟩ := a
  obtain ⟨⟨bx, bY⟩, bz⟩ := b
  obtain ⟨⟨ox, oy⟩, oz⟩ := o
  simp only at a0 a1 a2 q0 q1 q2
  have hb1 : (i1 : Int) < (n : Int) := by omega
  have k2 : Blk (w.alloc (.cells #[vint ox, vint oy, vint oz] 114)) w.heap.size [vint ox, vint oy, vint oz] := Blk.new _ _
  have hx0 : Ext w (w.alloc (.cells #[vint ox, vint oy, vint oz] 114)) := (Ext.refl _).alloc _
  go_enter Try.func111, Try.ntmps111
  go_wp2
  generalize (w.alloc (.cells #[vint ox, vint oy, vint oz] 114)) = w1 at *
  have o0 := k2.at_ 0 rfl
  have o1 := k2.at_ 1 rfl
  have o2 := k2.at_ 2 rfl
  replace a0 : ∀ w', Ext w1 w' → _ := fun w' he => a0 w' (hx0.trans he)
  replace a1 : ∀ w', Ext w1 w' → _ := fun w' he => a1 w' (hx0.trans he)
  replace a2 : ∀ w', Ext w1 w' → _ := fun w' he => a2 w' (hx0.trans he)
  replace s0 : ∀ w', Ext w1 w' → _ := fun w' he => s0 w' (hx0.trans he)
  replace k0 : ∀ w', Ext w1 w' → _ := fun w' he => k0 w' (hx0.trans he)
  replace q0 : ∀ w', Ext w1 w' → _ := fun w' he => q0 w' (hx0.trans he)
  replace q1 : ∀ w', Ext w1 w' → _ := fun w' he => q1 w' (hx0.trans he)
  replace q2 : ∀ w', Ext w1 w' → _ := fun w' he => q2 w' (hx0.trans he)
  clear k2
  refine wp_region_calm 13 (fun j _ v _ => j = 10 → v = .int .i64 D) (fun _ _ _ _ _ _ h => h) (by kernel_rfl) (by kernel_rfl) ?_
  simp only [List.take_succ_cons, List.take_zero, List.drop_succ_cons, List.drop_zero]
  refine calm_quiet calm_mono_final 10 (by kernel_rfl) ?_
  simp only [List.take_succ_cons, List.take_zero, List.drop_succ_cons, List.drop_zero]
  repeat (go_big_quiet_step (fail))
  refine wpQuiet_nil ?_
  refine calm_call calm_mono_final 62 #[.agg #[vint ax, vint ay, vint az], .agg #[vint bx, vint bY, vint bz], .agg #[vint ox, vint oy, vint oz]] rfl (fun w => ?_) (fun w he hF => ?_) ?_
  · go_simp
  · exact (Hs.out w).mono fun e w'' ⟨he', hx⟩ => ⟨_, he', hx, fun _ => rfl⟩
  rintro _ _ _ h
  cases h rfl
  simp only [Act.put, List.setIfInBounds_toArray, List.set_cons_succ, List.set_cons_zero]
  refine calm_quiet calm_mono_final 2 (by kernel_rfl) ?_
  simp only [List.take_succ_cons, List.take_zero, List.drop_succ_cons, List.drop_zero]
  repeat (go_big_quiet_step (fail))
  refine wpQuiet_nil ?_
  refine calm_nil fun w3 he3 _ => ?_
  go_wp2
  go_ret
  exact ⟨rfl, hx0.trans he3⟩
set_option maxRecDepth 100000 in
set_option maxHeartbeats 4000000 in
theorem index_in (g9 g2 g8 : Nat) (c : List Cn) (n i : Nat) (Ac : Option Addr) (cc : Nat) (Ao : Option Addr) (co : Nat) (other : List Cn) (w : World) (hE : InE w g9 g2 g8 c n i Ac cc) (hc : CnsOk c) (hO : CRow w Ao other) (ho : CnsOk other) :
    Calls Try.prog 110 #[.slice Ao other.length co, .func (.func 111) #[] #[.pointer (some ⟨g9, 0, none⟩), .pointer (some ⟨g2, 0, none⟩), .pointer (some ⟨g8, 0, none⟩)]] w fun e w' => e = .returned (.int .i64 (idxC c other i)) ∧ Ext w w' := by
  have hat := fun k (hk : k < other.length) => hO.at_ hk
  have hcl := fun k (hk : k < other.length) w' (he : Ext w w') => inside1_any g9 g2 g8 c n i Ac cc (cAt other k) w' (hE.ext he) hc (ho.at_ hk)
  have hyes := fun k (hk : k < other.length) (h : 0 < eside c i (cAt other k)) (hb : ∀ j, j < k → eside c i (cAt other j) ≤ 0) => idxC_at hk h hb
  have hno := fun (h : ∀ j, j < other.length → eside c i (cAt other j) ≤ 0) => idxC_none h
  have hm8 := ho.len.2
  have Hat := Lib.hid hat
  have Hcl := Lib.hid hcl
  have Hyes := Lib.hid hyes
  have Hno := Lib.hid hno
  clear hat hcl hyes hno hE hc hO ho
  generalize idxC c other i = E at *
  generalize other.length = m at *
  go_enter Try.func110, Try.ntmps110
  go_wp2
  go_loopw [8] (fun i' wr => ∃ k : Nat, k ≤ m ∧ i' = .int .i64 k ∧ Ext w wr ∧ ∀ j, j < k → eside c i (cAt other j) ≤ 0) (fun i' _ => m - (intOf i').toNat)
  case atStart => exact ⟨0, by omega, rfl, Ext.refl _, fun j h => absurd h (by omega)⟩
  case round =>
    obtain ⟨k, hk, rfl, hex, hall⟩ := hrel
    have Hall := Lib.hid hall
    clear hall
    by_cases hlt : k < m
    · obtain ⟨ad, rfl, r0, r1, r2⟩ := Hat.out k hlt
      have c0 : ∀ w', Ext wr w' → _ := fun w' he => r0 w' (hex.trans he)
      have c1 : ∀ w', Ext wr w' → _ := fun w' he => r1 w' (hex.trans he)
      have c2 : ∀ w', Ext wr w' → _ := fun w' he => r2 w' (hex.trans he)
      have hcc := fun w' (he : Ext wr w') => Hcl.out k hlt w' (hex.trans he)
      have hnx : eside c i (cAt other k) ≤ 0 → ∀ j, j < k + 1 → eside c i (cAt other j) ≤ 0 := fun h j hj => by
        by_cases e : j = k
        · subst e; exact h
        · exact Hall.out j (by omega)
      have hy := fun (h : 0 < eside c i (cAt other k)) => Hyes.out k hlt h Hall.out
      have Hnx := Lib.hid hnx
      have Hy := Lib.hid hy
      clear r0 r1 r2 Hat Hcl hnx hy Hyes Hno Hall
      by_cases hp : 0 < eside c i (cAt other k)
      · have hq := Hy.out hp
        have Hq := Lib.hid hq
        rw [decide_eq_true hp] at hcc
        have Hcc := Lib.hid hcc
        clear hq hcc hp Hnx Hy
        generalize cAt other k = o at *
        go_wp2_with (go_at_call 111; refine (Hcc.out _ (Ext.refl _)).mono ?_; rintro e w5 ⟨rfl, hx5⟩)
        go_ret
        exact ⟨ret_i Hq.out, hex.trans hx5⟩
      · have hq := Hnx.out (by omega)
        have Hq := Lib.hid hq
        rw [decide_eq_false hp] at hcc
        have Hcc := Lib.hid hcc
        clear hq hcc hp Hnx Hy
        generalize cAt other k = o at c0 c1 c2 Hcc
        go_wp2_with (go_at_call 111; refine (Hcc.out _ (Ext.refl _)).mono ?_; rintro e w5 ⟨rfl, hx5⟩)
        go_roundw
        case rel => exact ⟨k + 1, by omega, by go_num, hex.trans hx5, Hq.out⟩
        case measure => simp [intOf]; omega
    · obtain rfl : m = k := by omega
      go_wp2
      go_ret
      exact ⟨ret_i (Hno.out Hall.out), hex⟩
theorem getD_snoc_last {l : List Int} {x : Int} {k : Nat} (h : l.length = k) : (l ++ [x]).getD k 0 = x := by subst h; simp
theorem getD_snoc_lt {l : List Int} {x : Int} {j : Nat} (h : j < l.length) : (l ++ [x]).getD j 0 = l.getD j 0 := by simp [List.getD, List.getElem?_append_left h]
/-- What inside finds. -/
def InsRes (w w' : World) (c other : List Cn) (v : Value) (x : Int) (b : Bool) : Prop :=
  Ext w w' ∧ ((b = false ∧ v = .slice none 0 0 ∧ ∃ i : Nat, x = i ∧ i < c.length ∧ edgeOut c other i) ∨
    (b = true ∧ x = 0 ∧ ∃ ins : List Int, OwnI w w' v ins ∧ ins.length = c.length ∧ ∀ n, n < c.length → inAt c other n (ins.getD n 0)))
set_option maxRecDepth 100000 in
set_option maxHeartbeats 8000000 in
theorem inside_any (Ac : Option Addr) (cc : Nat) (c : List Cn) (Ao : Option Addr) (co : Nat) (other : List Cn) (w : World) (hA : CRow w Ac c) (hO : CRow w Ao other) (hc : CnsOk c) (ho : CnsOk other) :
    Calls Try.prog 93 #[.slice Ac c.length cc, .slice Ao other.length co] w fun e w' => ∃ v x b, e = .returned (.tuple #[v, .int .i64 x, .bool b]) ∧ InsRes w w' c other v x b := by
  have hat := fun k (hk : k < c.length) => hA.at_ hk
  have hix := fun (g9 g2 g8 i : Nat) w' (he : Ext w w') (hE : InE w' g9 g2 g8 c c.length i Ac cc) => index_in g9 g2 g8 c c.length i Ac cc Ao co other w' hE hc (hO.ext he) ho
  have hrw := fun w' (he : Ext w w') => hA.ext he
  have hyes := fun i => idxC_yes (c := c) (other := other) (i := i)
  have hno := fun i => idxC_no (c := c) (other := other) (i := i)
  have hn8 := hc.len.2
  obtain ⟨n, hn⟩ : ∃ n, n = c.length := ⟨_, rfl⟩
  have hres : ∀ (w' : World) (v : Value) (x : Int) (b : Bool), (Ext w w' ∧ ((b = false ∧ v = .slice none 0 0 ∧ ∃ i : Nat, x = i ∧ i < n ∧ edgeOut c other i) ∨
    (b = true ∧ x = 0 ∧ ∃ ins : List Int, Own w w' 3 1 v n (ins.map vint) ∧ ins.length = n ∧ ∀ j, j < n → inAt c other j (ins.getD j 0)))) → InsRes w w' c other v x b := fun w' v x b h => by
    refine ⟨h.1, ?_⟩
    rcases h.2 with ⟨h1, h2, i, h3, h4, h5⟩ | ⟨h1, h2, ins, h3, h4, h5⟩
    · exact .inl ⟨h1, h2, i, h3, by omega, h5⟩
    · exact .inr ⟨h1, h2, ins, by show Own w w' _ 1 v ins.length _; rw [h4]; exact h3, by omega, fun j hj => h5 j (by omega)⟩
  rw [← hn] at hat hix hn8 ⊢
  have Hat := Lib.hid hat
  have Hix := Lib.hid hix
  have Hrw := Lib.hid hrw
  have Hyes := Lib.hid hyes
  have Hno := Lib.hid hno
  have Hres := Lib.hid hres
  have Hn := Lib.hid hn
  clear hat hix hrw hyes hno hres hn hA hO hc ho
  generalize other.length = m at *
  have kb : Blk (w.alloc (.cells #[.slice Ac n cc] 111)) w.heap.size [.slice Ac n cc] := Blk.new _ _
  have b0 := kb.at_ 0 rfl
  have hx0 : Ext w (w.alloc (.cells #[.slice Ac n cc] 111)) := (Ext.refl _).alloc _
  go_enter Try.func93, Try.ntmps93
  go_wp2
  generalize (w.alloc (.cells #[.slice Ac n cc] 111)) = w0 at *
  have B0 := Lib.hid b0
  have Hx0 := Lib.hid hx0
  clear b0 hx0 kb
  go_loopw [13, 7] (fun i v wr => ∃ (k : Nat) (ins : List Int), k ≤ n ∧ i = .int .i64 k ∧ Own w0 wr 3 1 v k (ins.map vint) ∧ ins.length = k ∧ ∀ j, j < k → inAt c other j (ins.getD j 0)) (fun i _ _ => n - (intOf i).toNat)
  case atStart => exact ⟨0, [], by omega, rfl, Own.nil _ _ _, rfl, fun j h => absurd h (by omega)⟩
  case round =>
    obtain ⟨k, ins, hk, rfl, hown, hil, hin⟩ := hrel
    obtain ⟨Av, cv, rfl⟩ := hown.form
    have hex := hown.ext
    have Hin := Lib.hid hin
    clear hin
    by_cases hlt : k < n
    · obtain ⟨ad, rfl, r0, r1, r2⟩ := Hat.out k hlt
      have hxr := Hx0.out.trans hex
      have c0 : ∀ w', Ext wr w' → _ := fun w' he => r0 w' (hxr.trans he)
      have c1 : ∀ w', Ext wr w' → _ := fun w' he => r1 w' (hxr.trans he)
      have c2 : ∀ w', Ext wr w' → _ := fun w' he => r2 w' (hxr.trans he)
      have hx2 : Ext wr ((wr.alloc (.cells #[.int .i64 k] 3)).alloc (.cells #[.int .i64 (cAt c k).at_.x, .int .i64 (cAt c k).at_.y, .int .i64 (cAt c k).d] 114)) := ((Ext.refl _).alloc _).alloc _
      have ka : Blk ((wr.alloc (.cells #[.int .i64 k] 3)).alloc (.cells #[.int .i64 (cAt c k).at_.x, .int .i64 (cAt c k).at_.y, .int .i64 (cAt c k).d] 114)) (wr.heap.size + 1) [.int .i64 (cAt c k).at_.x, .int .i64 (cAt c k).at_.y, .int .i64 (cAt c k).d] := Blk.new' (cs := #[.int .i64 (cAt c k).at_.x, .int .i64 (cAt c k).at_.y, .int .i64 (cAt c k).d]) (by simp)
      have k8 : Blk ((wr.alloc (.cells #[.int .i64 k] 3)).alloc (.cells #[.int .i64 (cAt c k).at_.x, .int .i64 (cAt c k).at_.y, .int .i64 (cAt c k).d] 114)) wr.heap.size [.int .i64 k] := (Blk.new _ _).ext ((Ext.refl _).alloc _)
      have hE : InE ((wr.alloc (.cells #[.int .i64 k] 3)).alloc (.cells #[.int .i64 (cAt c k).at_.x, .int .i64 (cAt c k).at_.y, .int .i64 (cAt c k).d] 114)) (wr.heap.size + 1) w.heap.size wr.heap.size c n k (some ad) cc :=
        ⟨ka.at_ 0 rfl, ka.at_ 1 rfl, ka.at_ 2 rfl, fun w' he => B0.out w' (hex.trans (hx2.trans he)), k8.at_ 0 rfl, Hrw.out _ (hxr.trans hx2), Hn.out.symm, hlt, hn8⟩
      have hix := Hix.out _ _ _ _ _ (hxr.trans hx2) hE
      have q8 := k8.at_ 0 rfl
      have Hix' := Lib.hid hix
      have Hx2 := Lib.hid hx2
      have Hk8 := Lib.hid q8
      have Hown := Lib.hid hown
      have hkn : (k : Int) < (n : Int) := by omega
      have hib := idxC_lt (c := c) (other := other) (i := k)
      have hyes := Hyes.out k
      have hno := Hno.out k
      have Hyes' := Lib.hid hyes
      have Hno' := Lib.hid hno
      have Hhib := Lib.hid hib
      clear r0 r1 r2 hix hE ka k8 hown hyes hno Hyes Hno Hix Hat Hrw hx2 q8 hib
      generalize idxC c other k = X at *
      generalize cAt c k = s at *
      by_cases hX : X < 0
      · have he := Hno'.out hX
        have Hedge := Lib.hid he
        have d1 : decide (X < 0) = true := by simpa using hX
        clear he Hyes' Hno' hX
        go_wp2_with (go_at_call 110; refine Hix'.out.mono ?_; rintro e w5 ⟨rfl, hx5⟩; have p8 : ∀ w', Ext w5 w' → _ := fun w' he => Hk8.out w' (hx5.trans he))
        refine wp_region_calm 4 (fun _ _ _ _ => True) (fun _ _ _ _ _ _ h => h) (by kernel_rfl) (by kernel_rfl) ?_
        simp only [List.take_succ_cons, List.take_zero, List.drop_succ_cons, List.drop_zero]
        refine calm_quiet calm_mono_final 4 (by kernel_rfl) ?_
        simp only [List.take_succ_cons, List.take_zero, List.drop_succ_cons, List.drop_zero]
        repeat (go_big_quiet_step (fail))
        refine wpQuiet_nil ?_
        refine calm_nil fun w3 he3 _ => ?_
        go_wp2
        go_ret3
        refine ⟨_, _, _, rfl, Hres.out _ _ _ _ ⟨((hxr.trans Hx2.out).trans hx5).trans he3, .inl ⟨rfl, rfl, k, rfl, hlt, Hedge.out⟩⟩⟩
      · have he := Hyes'.out (by omega)
        have Hin2 := Lib.hid he
        have d1 : decide (X < 0) = false := by simpa using hX
        clear he Hyes' Hno' hX
        go_wp2_with (first
          | (go_at_call 110; refine Hix'.out.mono ?_; rintro e w5 ⟨rfl, hx5⟩; have ho5 := (Hown.out.later Hx2.out).later hx5)
          | (at_builtin; refine own_append_int (w1 := w0) rfl _ _ rfl _ k _ rfl ho5 X rfl (by omega) ?_; intro v' w7 h7))
        go_roundw
        case rel =>
          refine ⟨k + 1, ins ++ [X], by omega, by go_num, by simpa using h7, by simp [hil], fun j hj => ?_⟩
          by_cases e : j = k
          · subst e
            rw [getD_snoc_last hil]
            exact Hin2.out
          · rw [getD_snoc_lt (by omega)]
            exact Hin.out j (by omega)
        case measure => simp [intOf]; omega
    · obtain rfl : n = k := by omega
      have Hown := Lib.hid hown
      clear hown Hat Hix Hrw Hyes Hno
      go_wp2
      go_ret3
      exact ⟨_, _, _, rfl, Hres.out _ _ _ _ ⟨Hx0.out.trans hex, .inr ⟨rfl, rfl, ins, Hown.out.since Hx0.out, hil, Hin.out⟩⟩⟩
end Go.Proofs.Yteilglljigjefaa

/- Panels that clash: by the reference. -/
namespace Go.Proofs.Yteilglljigjefaa
open Go.RowKit
/-- Places with one number that divides them. -/
def cnL (l : List Sp) (d : Int) : List Cn := l.map fun s => ⟨s, d⟩
theorem cnL_len (l : List Sp) (d : Int) : (cnL l d).length = l.length := by simp [cnL]
theorem cnL_at {l : List Sp} {d : Int} {k : Nat} (h : k < l.length) : cAt (cnL l d) k = ⟨ptA l k, d⟩ := by
  rw [cAt_at (by rw [cnL_len]; exact h), ptA_at h]; simp [cnL]
theorem cnL_crn (p : Ps) (l : List Sp) : cnL (crnS p l) p.d = crn p l := by simp [cnL, crnS, crn]
theorem eside_cnL {l o : List Sp} {d e : Int} {i j : Nat} (hi : i < l.length) (hj : j < o.length) : eside (cnL l d) i (cAt (cnL o e) j) = sideS (ptA l i) (ptA l ((i + 1) % l.length)) d (ptA o j) e := by
  have h1 : (i + 1) % l.length < l.length := Nat.mod_lt _ (by omega)
  unfold eside sideC
  rw [cnL_len, cnL_at hi, cnL_at h1, cnL_at hj]
theorem edgeOut_at {c other : List Cn} {i : Nat} : edgeOut c other i ↔ ∀ j, j < other.length → eside c i (cAt other j) ≤ 0 := by
  constructor
  · exact fun h j hj => h _ (cAt_mem hj)
  · intro h o ho
    obtain ⟨j, hj, rfl⟩ := List.getElem_of_mem ho
    have := h j hj
    rwa [cAt_at hj] at this
set_option maxRecDepth 100000 in
set_option maxHeartbeats 8000000 in
theorem parted_any (A : Option Addr) (ca : Nat) (l : List Sp) (d : Int) (B : Option Addr) (cb : Nat) (o : List Sp) (e : Int) (w : World) (hA : SRow w A l) (hB : SRow w B o) (hc : CnsOk (cnL l d)) (ho : CnsOk (cnL o e)) :
    Calls Try.prog 92 #[.slice A l.length ca, .int .i64 d, .slice B o.length cb, .int .i64 e] w fun en w' => en = .returned (.bool (partB (cnL l d) (cnL o e))) ∧ Ext w w' := by
  have hat := fun k (hk : k < l.length) => hA.at_ hk
  have hbt := fun k (hk : k < o.length) => hB.at_ hk
  have hl8 := hc.len
  have ho8 := ho.len
  rw [cnL_len] at hl8 ho8
  have hsd : ∀ i, i < l.length → ∀ j, j < o.length → ∀ w' : World, Calls Try.prog 102 #[(ptA l i).val, (ptA l ((i + 1) % l.length)).val, .int .i64 d, (ptA o j).val, .int .i64 e] w' fun en w'' => en = .returned (.int .i64 (eside (cnL l d) i (cAt (cnL o e) j))) ∧ Ext w' w'' := fun i hi j hj w' => by
    have h1 := hc.edge (i := i) (by rw [cnL_len]; exact hi)
    have h2 := ho.at_ (k := j) (by rw [cnL_len]; exact hj)
    rw [cnL_len, cnL_at hi, cnL_at (Nat.mod_lt _ (by omega))] at h1
    rw [cnL_at hj] at h2
    rw [eside_cnL hi hj]
    exact beside_any _ _ d _ e w' h1 h2
  have hyes : ∀ i, i < l.length → (∀ j, j < o.length → eside (cnL l d) i (cAt (cnL o e) j) ≤ 0) → true = partB (cnL l d) (cnL o e) := fun i hi h => (decide_eq_true (show partP _ _ from ⟨i, by rw [cnL_len]; exact hi, edgeOut_at.2 fun j hj => h j (by rw [cnL_len] at hj; exact hj)⟩)).symm
  have hno : (∀ i, i < l.length → ¬ ∀ j, j < o.length → eside (cnL l d) i (cAt (cnL o e) j) ≤ 0) → false = partB (cnL l d) (cnL o e) := fun h => (decide_eq_false (show ¬ partP _ _ from fun ⟨i, hi, h2⟩ => h i (by rw [cnL_len] at hi; exact hi) fun j hj => edgeOut_at.1 h2 j (by rw [cnL_len]; exact hj))).symm
  have Hat := Lib.hid hat
  have Hbt := Lib.hid hbt
  have Hsd := Lib.hid hsd
  have Hyes := Lib.hid hyes
  have Hno := Lib.hid hno
  clear hat hbt hsd hyes hno hA hB hc ho
  generalize partB (cnL l d) (cnL o e) = R at *
  generalize l.length = n at *
  generalize o.length = m at *
  generalize hES : (fun i j => eside (cnL l d) i (cAt (cnL o e) j)) = ES at *
  have hes : ∀ i j, eside (cnL l d) i (cAt (cnL o e) j) = ES i j := fun i j => by rw [← hES]
  simp only [hes] at Hsd Hyes Hno
  clear hes hES
  go_enter Try.func92, Try.ntmps92
  go_wp2
  go_loopw [9] (fun i wr => ∃ k : Nat, k ≤ n ∧ i = .int .i64 k ∧ Ext w wr ∧ Hid (∀ i, i < k → ¬ ∀ j, j < m → ES i j ≤ 0)) (fun i _ => n - (intOf i).toNat)
  case atStart => exact ⟨0, by omega, rfl, Ext.refl _, Lib.hid fun i h => absurd h (by omega)⟩
  case round =>
    obtain ⟨i, hi, rfl, hex, Hall⟩ := hrel
    by_cases hlt : i < n
    · have hi1 := Nat.mod_lt (i + 1) (show 0 < n by omega)
      have e2 : ((i : Int) + 1).tmod (n : Int) = (((i + 1) % n : Nat) : Int) := by
        rw [Int.tmod_eq_emod_of_nonneg (by omega)]; exact (by push_cast; rfl)
      have e3 : ((n : Int) = 0) = False := by simp; omega
      have hsd := Hsd.out i hlt
      have hy := Hyes.out i hlt
      have Hsd' := Lib.hid hsd
      have Hy := Lib.hid hy
      clear hsd hy Hsd Hyes
      generalize (i + 1) % n = i1 at *
      have b1 : (i1 : Int) < (n : Int) := by omega
      have b2 : (i : Int) < (n : Int) := by omega
      go_wp2
      obtain ⟨wo, rfl⟩ : ∃ wo : World, wo = wr := ⟨_, rfl⟩
      go_loopw [11, 10] (fun i' v wr => ∃ (k : Nat) (b : Bool), k ≤ m ∧ i' = .int .i64 k ∧ v = .bool b ∧ Ext w wr ∧ Hid (b = true ↔ ∀ j, j < k → ES i j ≤ 0)) (fun i' _ _ => m - (intOf i').toNat)
      case atStart => exact ⟨0, true, by omega, rfl, rfl, hex, Lib.hid (by simp)⟩
      case round =>
        obtain ⟨k, b, hk, rfl, rfl, hex, Hb⟩ := hrel
        by_cases hlt2 : k < m
        · have b3 : (k : Int) < (m : Int) := by omega
          cases b
          · have hb := Hb.out
            have hnx : (false = true ↔ ∀ j, j < k + 1 → ES i j ≤ 0) := by
              constructor
              · intro h; cases h
              · intro h; exact hb.2 fun j hj => h j (by omega)
            have Hnx := Lib.hid hnx
            clear hb hnx Hb Hat Hbt Hsd' Hy Hno Hall
            go_wp2
            refine wp_region_calm 24 (fun _ _ _ _ => True) (fun _ _ _ _ _ _ h => h) (by kernel_rfl) (by kernel_rfl) ?_
            simp only [List.take_succ_cons, List.take_zero, List.drop_succ_cons, List.drop_zero]
            refine calm_quiet calm_mono_final 20 (by kernel_rfl) ?_
            simp only [List.take_succ_cons, List.take_zero, List.drop_succ_cons, List.drop_zero]
            repeat (go_big_quiet_step (fail))
            refine wpQuiet_nil ?_
            refine calm_skip (by kernel_rfl) ?_
            simp only [Act.put, List.setIfInBounds_toArray, List.set_cons_succ, List.set_cons_zero]
            refine calm_quiet calm_mono_final 3 (by kernel_rfl) ?_
            simp only [List.take_succ_cons, List.take_zero, List.drop_succ_cons, List.drop_zero]
            repeat (go_big_quiet_step (fail))
            refine wpQuiet_nil ?_
            refine calm_nil fun w3 he3 _ => ?_
            go_wp2
            go_roundw
            case rel => exact ⟨k + 1, false, by omega, by go_num, rfl, hex.trans he3, Hnx⟩
            case measure => simp [intOf]; omega
          · obtain ⟨ad, rfl, p0, p1⟩ := Hat.out i hlt
            obtain ⟨_, ee, q0, q1⟩ := Hat.out i1 hi1
            cases ee
            obtain ⟨bd, rfl, r0, r1⟩ := Hbt.out k hlt2
            have u0 : ∀ w', Ext wr w' → _ := fun w' he => p0 w' (hex.trans he)
            have u1 : ∀ w', Ext wr w' → _ := fun w' he => p1 w' (hex.trans he)
            have v0 : ∀ w', Ext wr w' → _ := fun w' he => q0 w' (hex.trans he)
            have v1 : ∀ w', Ext wr w' → _ := fun w' he => q1 w' (hex.trans he)
            have z0 : ∀ w', Ext wr w' → _ := fun w' he => r0 w' (hex.trans he)
            have z1 : ∀ w', Ext wr w' → _ := fun w' he => r1 w' (hex.trans he)
            have hs := Hsd'.out k hlt2
            have hb := Hb.out.1 rfl
            have hnx : ∀ c : Bool, (c = true ↔ ES i k ≤ 0) → (c = true ↔ ∀ j, j < k + 1 → ES i j ≤ 0) := fun c hc => by
              rw [hc]
              constructor
              · intro h j hj
                by_cases e : j = k
                · subst e; exact h
                · exact hb j (by omega)
              · intro h; exact h k (by omega)
            have Hs := Lib.hid hs
            have Hnx := Lib.hid hnx
            clear p0 p1 q0 q1 r0 r1 hs hb hnx Hb Hat Hbt Hsd' Hy Hno Hall
            generalize ES i k = D at *
            generalize ptA l i = u at *
            generalize ptA l i1 = v at *
            generalize ptA o k = z at *
            go_wp2
            refine wp_region_calm 24 (fun j _ v _ => j = 20 → v = .int .i64 D) (fun _ _ _ _ _ _ h => h) (by kernel_rfl) (by kernel_rfl) ?_
            simp only [List.take_succ_cons, List.take_zero, List.drop_succ_cons, List.drop_zero]
            refine calm_quiet calm_mono_final 20 (by kernel_rfl) ?_
            simp only [List.take_succ_cons, List.take_zero, List.drop_succ_cons, List.drop_zero]
            repeat (go_big_quiet_step (fail))
            refine wpQuiet_nil ?_
            refine calm_call calm_mono_final 102 #[u.val, v.val, .int .i64 d, z.val, .int .i64 e] rfl (fun w => ?_) (fun w he hF => ?_) ?_
            · go_simp
            · exact (Hs.out w).mono fun e w'' ⟨he', hx⟩ => ⟨_, he', hx, fun _ => rfl⟩
            rintro _ _ _ h
            cases h rfl
            simp only [Act.put, List.setIfInBounds_toArray, List.set_cons_succ, List.set_cons_zero]
            refine calm_quiet calm_mono_final 3 (by kernel_rfl) ?_
            simp only [List.take_succ_cons, List.take_zero, List.drop_succ_cons, List.drop_zero]
            repeat (go_big_quiet_step (fail))
            refine wpQuiet_nil ?_
            refine calm_nil fun w3 he3 _ => ?_
            go_wp2
            go_roundw
            case rel => exact ⟨k + 1, decide (D ≤ 0), by omega, by go_num, by simp, hex.trans he3, Lib.hid (Hnx.out _ (by simp))⟩
            case measure => simp [intOf]; omega
        · obtain rfl : m = k := by omega
          cases b
          · have hnx : ∀ i', i' < i + 1 → ¬ ∀ j, j < m → ES i' j ≤ 0 := fun i' h => by
              by_cases e : i' = i
              · subst e; intro h2; have := Hb.out.2 h2; cases this
              · exact Hall.out i' (by omega)
            have Hnx := Lib.hid hnx
            clear hnx Hb Hat Hbt Hsd' Hy Hno Hall
            go_wp2
            go_roundw
            case rel => exact ⟨i + 1, by omega, by go_num, hex, Hnx⟩
            case measure => simp [intOf]; omega
          · have hy := Hy.out (Hb.out.1 rfl)
            have Hy' := Lib.hid hy
            clear hy Hb Hat Hbt Hsd' Hy Hno Hall
            go_wp2
            go_ret
            exact ⟨ret_b Hy'.out, hex⟩
    · obtain rfl : n = i := by omega
      have hn := Hno.out Hall.out
      have Hn := Lib.hid hn
      clear hn Hno Hall Hat Hbt Hsd Hyes
      go_wp2
      go_ret
      exact ⟨ret_b Hn.out, hex⟩
theorem pcrn_cnL (ps : List (List Sp)) (hs : List Hg) (k : Nat) : cnL (crnS (posF hs k) (pnA ps k)) (posF hs k).d = pcrn ps hs k := cnL_crn _ _
set_option maxRecDepth 100000 in
set_option maxHeartbeats 4000000 in
theorem clashing_any (A : Option Addr) (c : Nat) (ps : List (List Sp)) (B : Option Addr) (d : Nat) (hs : List Hg) (i k : Nat) (w : World) (hL : Lk w A ps B hs) (hl : linkP ps hs) (hi : i < ps.length) (hk : k < ps.length) :
    Calls Try.prog 72 #[.agg #[.slice A ps.length c, .slice B hs.length d], .int .i64 i, .int .i64 k] w fun e w' => e = .returned (.bool (clashB (pcrn ps hs i) (pcrn ps hs k))) ∧ Ext w w' := by
  have hc1 := fun w' (he : Ext w w') => cornered_any A c ps B d hs i w' (hL.ext he) hl hi
  have hc2 := fun w' (he : Ext w w') => cornered_any A c ps B d hs k w' (hL.ext he) hl hk
  have ok1 := pcrn_ok hl hi
  have ok2 := pcrn_ok hl hk
  rw [← pcrn_cnL] at ok1 ok2
  have hp1 := fun (X Y : Option Addr) (x y : Nat) (w' : World) (hX : SRow w' X (crnS (posF hs i) (pnA ps i))) (hY : SRow w' Y (crnS (posF hs k) (pnA ps k))) => parted_any X x _ (posF hs i).d Y y _ (posF hs k).d w' hX hY ok1 ok2
  have hp2 := fun (X Y : Option Addr) (x y : Nat) (w' : World) (hX : SRow w' X (crnS (posF hs k) (pnA ps k))) (hY : SRow w' Y (crnS (posF hs i) (pnA ps i))) => parted_any X x _ (posF hs k).d Y y _ (posF hs i).d w' hX hY ok2 ok1
  rw [pcrn_cnL, pcrn_cnL] at hp1 hp2
  unfold clashB
  have Hc1 := Lib.hid hc1
  have Hc2 := Lib.hid hc2
  have Hp1 := Lib.hid hp1
  have Hp2 := Lib.hid hp2
  clear hc1 hc2 hp1 hp2 ok1 ok2 hL hl
  generalize partB (pcrn ps hs i) (pcrn ps hs k) = R1 at *
  generalize partB (pcrn ps hs k) (pcrn ps hs i) = R2 at *
  generalize crnS (posF hs i) (pnA ps i) = L1 at *
  generalize crnS (posF hs k) (pnA ps k) = L2 at *
  generalize (posF hs i).d = d1 at *
  generalize (posF hs k).d = d2 at *
  generalize ps.length = np at *
  generalize hs.length = nh at *
  have kb : Blk (w.alloc (.cells #[.slice A np c, .slice B nh d] 25)) w.heap.size [.slice A np c, .slice B nh d] := Blk.new _ _
  have b0 := kb.at_ 0 rfl
  have b1 := kb.at_ 1 rfl
  have hx0 : Ext w (w.alloc (.cells #[.slice A np c, .slice B nh d] 25)) := (Ext.refl _).alloc _
  have Hx0 := Lib.hid hx0
  clear kb hx0
  cases R1
  all_goals
    go_enter Try.func72, Try.ntmps72
    go_wp2_with (first
      | (go_at_call 67; ((with_reducible refine (Hc1.out _ Hx0.out).mono ?_); rintro e w1 ⟨v1, rfl, ho1⟩); have hx1 := ho1.ext; have hxx := Hx0.out.trans hx1; obtain ⟨X1, x1, rfl⟩ := ho1.form; replace b0 : ∀ w', Ext w1 w' → _ := fun w' he => b0 w' (hx1.trans he); replace b1 : ∀ w', Ext w1 w' → _ := fun w' he => b1 w' (hx1.trans he))
      | (go_at_call 67; ((with_reducible refine (Hc2.out _ hxx).mono ?_); rintro e w2 ⟨v2, rfl, ho2⟩); have hx2 := ho2.ext; obtain ⟨X2, x2, rfl⟩ := ho2.form)
      | (go_at_call 92; ((with_reducible refine (Hp1.out X1 X2 x1 x2 _ (ho1.row.ext hx2) ho2.row).mono ?_); rintro e w3 ⟨rfl, hx3⟩))
      | (go_at_call 92; ((with_reducible refine (Hp2.out X2 X1 x2 x1 _ (ho2.row.ext hx3) ((ho1.row.ext hx2).ext hx3)).mono ?_); rintro e w4 ⟨rfl, hx4⟩)))
    go_ret
    first
      | exact ⟨ret_b (by simp), ((hxx.trans hx2).trans hx3).trans hx4⟩
      | exact ⟨ret_b (by simp), (hxx.trans hx2).trans hx3⟩
def clashE (ps : List (List Sp)) (hs : List Hg) (i k : Int) : Int := if twoE ps hs i k = 0 then (if clashB (pcrn ps hs i.toNat) (pcrn ps hs k.toNat) = true then 51 else 0) else twoE ps hs i k
theorem clashE_nat {ps : List (List Sp)} {hs : List Hg} {i k : Nat} (h : twoE ps hs i k = 0) : clashE ps hs i k = if clashB (pcrn ps hs i) (pcrn ps hs k) = true then 51 else 0 := by rw [clashE, if_pos h]; simp
set_option maxRecDepth 100000 in
set_option maxHeartbeats 4000000 in
theorem clash_ref (A : Option Addr) (c : Nat) (ps : List (List Sp)) (B : Option Addr) (d : Nat) (hs : List Hg) (i k : Int) (w : World) (hL : Lk w A ps B hs) :
    Calls Try.prog 43 #[.agg #[.slice A ps.length c, .slice B hs.length d], .int .i64 i, .int .i64 k] w fun e w' => e = .returned (.int .i64 (clashE ps hs i k)) ∧ Ext w w' := by
  have ht := fun w' (he : Ext w w') => two_ref A c ps B d hs i k w' (hL.ext he)
  rcases two_cases ps hs i k with ⟨h1, ⟨a, b, rfl, rfl, ha, hb, hne⟩, h2⟩ | ⟨h2, _⟩
  · have hcg := fun w' (he : Ext w w') => clashing_any A c ps B d hs a b w' (hL.ext he) h1 ha hb
    rw [clashE_nat h2]
    rw [h2] at ht
    have Ht := Lib.hid ht
    have Hcg := Lib.hid hcg
    clear ht hcg hL h1 h2 ha hb hne
    generalize clashB (pcrn ps hs a) (pcrn ps hs b) = R at *
    generalize ps.length = np at *
    generalize hs.length = nh at *
    have kb : Blk (w.alloc (.cells #[.slice A np c, .slice B nh d] 25)) w.heap.size [.slice A np c, .slice B nh d] := Blk.new _ _
    have b0 := kb.at_ 0 rfl
    have b1 := kb.at_ 1 rfl
    have hx0 : Ext w (w.alloc (.cells #[.slice A np c, .slice B nh d] 25)) := (Ext.refl _).alloc _
    have Hx0 := Lib.hid hx0
    clear kb hx0
    cases R
    all_goals
      go_enter Try.func43, Try.ntmps43
      go_wp2_with (first
        | (go_at_call 75; refine (Ht.out _ Hx0.out).mono ?_; rintro e w1 ⟨rfl, hx1⟩; have hxx := Hx0.out.trans hx1)
        | (go_at_call 72; refine (Hcg.out _ hxx).mono ?_; rintro e w2 ⟨rfl, hx2⟩))
      go_ret
      exact ⟨rfl, hxx.trans hx2⟩
  · have hne : ¬ twoE ps hs i k = 0 := by omega
    rw [clashE, if_neg hne]
    have d1 : (twoE ps hs i k != 0) = true := by simpa using hne
    have Ht := Lib.hid ht
    clear ht hL h2 hne
    generalize twoE ps hs i k = E at *
    generalize ps.length = np at *
    generalize hs.length = nh at *
    have kb : Blk (w.alloc (.cells #[.slice A np c, .slice B nh d] 25)) w.heap.size [.slice A np c, .slice B nh d] := Blk.new _ _
    have b0 := kb.at_ 0 rfl
    have b1 := kb.at_ 1 rfl
    have hx0 : Ext w (w.alloc (.cells #[.slice A np c, .slice B nh d] 25)) := (Ext.refl _).alloc _
    have Hx0 := Lib.hid hx0
    clear kb hx0
    go_enter Try.func43, Try.ntmps43
    go_wp2_with (go_at_call 75; refine (Ht.out _ Hx0.out).mono ?_; rintro e w1 ⟨rfl, hx1⟩; have hxx := Hx0.out.trans hx1)
    go_ret
    exact ⟨rfl, hxx⟩
end Go.Proofs.Yteilglljigjefaa

/- The arguments of the laws, opened. -/
namespace Go.Proofs.Yteilglljigjefaa
open Go.ChangeShapes Go.WideShapes Go.ChangeAt Go.RowKit Go.Deep

theorem own_knob : ownKnob Try.prog.godebug = none := by kernel_rfl
theorem laid_out : laidOutB Try.prog = true := by kernel_rfl
theorem i64_bounds {n : Int} (h : (Lit.int .i64 n).wf = true) : -9223372036854775808 ≤ n ∧ n ≤ 9223372036854775807 := by
  have := h
  simp [Lit.wf, IntKind.min, IntKind.max, IntKind.signed, IntKind.bits] at this
  omega
theorem pick_list {α : Type} {R : Nat → α → Prop} (len : Nat) (h : ∀ i, i < len → ∃ q, R i q) : ∃ l : List α, l.length = len ∧ ∀ i (hi : i < l.length), R i l[i] := by
  have pick : ∀ m, m ≤ len → ∃ ps : List α, ps.length = m ∧ ∀ i (hi : i < ps.length), R i ps[i] := by
    intro m
    induction m with
    | zero => exact fun _ => ⟨[], rfl, fun i hi => by simp at hi⟩
    | succ m ih =>
      intro hm'
      obtain ⟨ps, hl, hps⟩ := ih (by omega)
      obtain ⟨q, hq⟩ := h m (by omega)
      refine ⟨ps ++ [q], by simp [hl], fun i hi => ?_⟩
      by_cases e : i < ps.length
      · rw [List.getElem_append_left e]; exact hps i e
      · have : i = ps.length := by simp at hi; omega
        subst this
        simp
        rw [hl]
        exact hq
  exact pick len (Nat.le_refl _)
theorem row_of_cells {α : Type} {w : World} {a : Addr} {l : List α} (cells : α → List Value) (s : Nat) (hs0 : 0 < s) (hs : ∀ x, (cells x).length = s) (h : ∀ i (hi : i < l.length) j, j < s → w.cell? (a.add (i * s + j)) = (cells l[i])[j]?) : Row w (some a) (l.map cells).flatten := fun k hk => by
  refine ⟨a, rfl, ?_⟩
  have hsz : ∀ r ∈ l.map cells, r.length = s := fun r hr => by obtain ⟨x, _, rfl⟩ := List.mem_map.1 hr; exact hs x
  have hfl := flatten_len s _ hsz
  have hk1 : k / s < l.length := by
    rw [hfl, List.length_map] at hk
    exact Nat.div_lt_of_lt_mul (by rw [Nat.mul_comm]; exact hk)
  have hm : k % s < s := Nat.mod_lt _ hs0
  have e : k = k / s * s + k % s := by rw [Nat.mul_comm]; exact (Nat.div_add_mod k s).symm
  have h3 := flatten_get s _ hsz (k / s) (k % s) hm (by simpa using hk1)
  have h4 := h (k / s) hk1 (k % s) hm
  rw [← e] at h3 h4
  rw [h3, h4]
  simp

section
variable {H : Type} {enc : TypeId × Value → H} {w : World} {base : Nat} {held : Bool}
theorem int_of {n : Nat} {v : Value} {y : DataW H × List MemPlace} (h : DataW.trod enc Try.prog w base (fun _ => true) held n 3 [v] = some y) : ∃ x, v = .int .i64 x ∧ (Lit.int .i64 x).wf = true := by
  obtain ⟨x, hv, _, hw⟩ := DataW.trod_int Try.underlying3 h
  simp at hv
  exact ⟨x, hv, hw⟩
theorem int_of' {n : Nat} {v : Value} {o : Option (DataW H × List MemPlace)} (h : DataW.trod enc Try.prog w base (fun _ => true) held n 3 [v] = o) (ho : o.isSome = true) : ∃ x, v = .int .i64 x ∧ (Lit.int .i64 x).wf = true := by
  obtain ⟨y, rfl⟩ := Option.isSome_iff_exists.1 ho
  exact int_of h
theorem list1 {α : Type} {l : List α} (h : l.length = 1) : ∃ a, l = [a] := by
  match l, h with
  | [a], _ => exact ⟨a, rfl⟩
theorem list2 {α : Type} {l : List α} (h : l.length = 2) : ∃ a b, l = [a, b] := by
  match l, h with
  | [a, b], _ => exact ⟨a, b, rfl⟩
theorem list5 {α : Type} {l : List α} (h : l.length = 5) : ∃ a b c d e, l = [a, b, c, d, e] := by
  match l, h with
  | [a, b, c, d, e], _ => exact ⟨a, b, c, d, e, rfl⟩
theorem cells_int : Try.prog.cellsOf 3 = 1 := by kernel_rfl
theorem cells_spot : Try.prog.cellsOf 27 = 2 := by kernel_rfl
theorem cells_hinge : Try.prog.cellsOf 85 = 5 := by kernel_rfl
theorem cells_panel : Try.prog.cellsOf 40 = 1 := by kernel_rfl
set_option maxRecDepth 100000 in
theorem spot_of {n : Nat} {cs : List Value} {o : Option (DataW H × List MemPlace)} (h : DataW.trod enc Try.prog w base (fun _ => true) held n 27 cs = o) (ho : o.isSome = true) : ∃ s : Sp, cs = s.cells := by
  obtain ⟨y, rfl⟩ := Option.isSome_iff_exists.1 ho
  obtain ⟨xs, m, _, _, hl, hxl, hf⟩ := DataW.trod_struct Try.underlying27 h
  rw [cells_spot] at hl
  obtain ⟨c0, c1, rfl⟩ := list2 hl
  have h0 := hf 0 _ rfl
  have h1 := hf 1 _ rfl
  have hx2 : xs.length = 2 := hxl
  change DataW.trod enc Try.prog w base (fun _ => true) held m 3 (([c0, c1].drop 0).take (Try.prog.cellsOf 3)) = xs[0]? at h0
  rw [cells_int] at h0
  change DataW.trod enc Try.prog w base (fun _ => true) held m 3 (([c0, c1].drop 1).take (Try.prog.cellsOf 3)) = xs[1]? at h1
  rw [cells_int] at h1
  obtain ⟨x, rfl, _⟩ := int_of' h0 (by simp [hx2])
  obtain ⟨y, rfl, _⟩ := int_of' h1 (by simp [hx2])
  exact ⟨⟨x, y⟩, rfl⟩
set_option maxRecDepth 100000 in
theorem hinge_of {n : Nat} {cs : List Value} {y : DataW H × List MemPlace} (h : DataW.trod enc Try.prog w base (fun _ => true) held n 85 cs = some y) : ∃ s : Hg, cs = s.cells := by
  obtain ⟨xs, m, _, _, hl, hxl, hf⟩ := DataW.trod_struct Try.underlying85 h
  rw [cells_hinge] at hl
  obtain ⟨c0, c1, c2, c3, c4, rfl⟩ := list5 hl
  have h0 := hf 0 _ rfl
  have h1 := hf 1 _ rfl
  have h2 := hf 2 _ rfl
  have hx3 : xs.length = 3 := hxl
  change DataW.trod enc Try.prog w base (fun _ => true) held m 27 (([c0, c1, c2, c3, c4].drop 0).take (Try.prog.cellsOf 27)) = xs[0]? at h0
  rw [cells_spot] at h0
  change DataW.trod enc Try.prog w base (fun _ => true) held m 27 (([c0, c1, c2, c3, c4].drop 2).take (Try.prog.cellsOf 27)) = xs[1]? at h1
  rw [cells_spot] at h1
  change DataW.trod enc Try.prog w base (fun _ => true) held m 3 (([c0, c1, c2, c3, c4].drop 4).take (Try.prog.cellsOf 3)) = xs[2]? at h2
  rw [cells_int] at h2
  obtain ⟨a, ha⟩ := spot_of h0 (by simp [hx3])
  obtain ⟨b, hb⟩ := spot_of h1 (by simp [hx3])
  obtain ⟨z, rfl, _⟩ := int_of' h2 (by simp [hx3])
  have ha : [c0, c1] = [vint a.x, vint a.y] := ha
  have hb : [c2, c3] = [vint b.x, vint b.y] := hb
  injection ha with ha0 ha1
  injection ha1 with ha1 _
  injection hb with hb0 hb1
  injection hb1 with hb1 _
  subst ha0 ha1 hb0 hb1
  exact ⟨⟨a, b, z⟩, rfl⟩
theorem ints_of {n : Nat} {v : Value} {y : DataW H × List MemPlace} (h : DataW.trod enc Try.prog w base (fun _ => true) held n 30 [v] = some y) :
    ∃ (A : Option Addr) (c : Nat) (xs : List Int), v = .slice A xs.length c ∧ Ints w A xs ∧ xs.length ≤ 9223372036854775807 ∧ ∀ x ∈ xs, -9223372036854775808 ≤ x ∧ x ≤ 9223372036854775807 := by
  rcases open_ints Try.underlying30 Try.underlying3 (by kernel_rfl) h with ⟨hcs, _⟩ | ⟨x, l, c, zs, hcs, _, hl, hm, hz, _, hcell, hwz⟩
  · simp at hcs
    subst hcs
    exact ⟨none, 0, [], rfl, Ints.nil _ _, by simp, by simp⟩
  · simp at hcs hz
    subst hcs
    have hlen : (zs.take l).length = l := by rw [List.length_take]; omega
    refine ⟨some x, c, zs.take l, by rw [hlen], fun k hk => ⟨x, rfl, ?_⟩, by rw [hlen]; unfold maxLen at hm; omega, fun z hz' => i64_bounds (hwz z (List.mem_of_mem_take hz'))⟩
    have hk' : k < l := by rw [List.length_map, hlen] at hk; exact hk
    rw [hcell k (by omega)]
    simp [hk', List.getD]
    rw [List.getElem?_eq_getElem (by omega)]
    simp
/-- Elements of a slice, one by one. -/
theorem elems_of {α : Type} {t e : TypeId} {fuel : Nat} {v : Value} {x : DataW H × List MemPlace} (cells : α → List Value) (s : Nat) (hs0 : 0 < s) (hs : ∀ x, (cells x).length = s) (ht : Try.prog.underlying t = some (.slice e)) (hC : Try.prog.cellsOf e = s)
    (hel : ∀ (n : Nat) (cs : List Value) (y : DataW H × List MemPlace), DataW.trod enc Try.prog w base (fun _ => true) held n e cs = some y → ∃ q : α, cs = cells q)
    (h : DataW.trod enc Try.prog w base (fun _ => true) held fuel t [v] = some x) :
    ∃ (A : Option Addr) (c : Nat) (l : List α), v = .slice A l.length c ∧ Row w A (l.map cells).flatten := by
  rcases open_slice ht h with ⟨hcs, _⟩ | ⟨a, len, cap, m, n, D, Pl, hcs, hb, hl, hm, hmm, hx, hi⟩
  · simp at hcs
    subst hcs
    exact ⟨none, 0, [], rfl, Row.nil _ _⟩
  · simp at hcs
    subst hcs
    have each : ∀ i : Nat, i < len → ∃ q : α, ∀ j, j < s → w.cell? (a.add (i * s + j)) = (cells q)[j]? := fun i hil => by
      obtain ⟨cs', hc, ht'⟩ := hi i (by rw [hmm]; simp; omega)
      rw [hC] at hc
      obtain ⟨q, rfl⟩ := hel n cs' _ ht'
      obtain ⟨_, hcl, hat⟩ := World.cells?_some hc
      exact ⟨q, fun j hj => by rw [← Go.Deep.add_add, hat j hj]⟩
    obtain ⟨l, hlen, hall⟩ := pick_list len each
    exact ⟨some a, cap, l, by rw [hlen], row_of_cells cells s hs0 hs hall⟩
theorem spots_of {n : Nat} {t : TypeId} {v : Value} {y : DataW H × List MemPlace} (ht : Try.prog.underlying t = some (.slice 27)) (h : DataW.trod enc Try.prog w base (fun _ => true) held n t [v] = some y) :
    ∃ (A : Option Addr) (c : Nat) (l : List Sp), v = .slice A l.length c ∧ SRow w A l :=
  elems_of Sp.cells 2 (by omega) (fun _ => rfl) ht cells_spot (fun _ _ _ h => spot_of h rfl) h
theorem hinges_of {n : Nat} {v : Value} {y : DataW H × List MemPlace} (h : DataW.trod enc Try.prog w base (fun _ => true) held n 23 [v] = some y) :
    ∃ (A : Option Addr) (c : Nat) (l : List Hg), v = .slice A l.length c ∧ HRow w A l :=
  elems_of Hg.cells 5 (by omega) (fun _ => rfl) Try.underlying23 cells_hinge (fun _ _ _ h => hinge_of h) h
set_option maxRecDepth 100000 in
theorem panels_of {n : Nat} {v : Value} {y : DataW H × List MemPlace} (h : DataW.trod enc Try.prog w base (fun _ => true) held n 22 [v] = some y) :
    ∃ (A : Option Addr) (c : Nat) (l : List (List Sp)), v = .slice A l.length c ∧ PnRow w A l := by
  rcases open_slice Try.underlying22 h with ⟨hcs, _⟩ | ⟨a, len, cap, m, n, D, Pl, hcs, hb, hl, hm, hmm, hx, hi⟩
  · simp at hcs
    subst hcs
    exact ⟨none, 0, [], rfl, PnRow.nil _ _⟩
  · simp at hcs
    subst hcs
    have each : ∀ i : Nat, i < len → ∃ q : List Sp, ∃ B c, w.cell? (a.add i) = some (.slice B q.length c) ∧ SRow w B q := fun i hil => by
      obtain ⟨cs', hc, ht'⟩ := hi i (by rw [hmm]; simp; omega)
      rw [cells_panel, Nat.mul_one] at hc
      obtain ⟨_, hcl, hat⟩ := World.cells?_some hc
      obtain ⟨c0, rfl⟩ := list1 hcl
      obtain ⟨B, c, q, rfl, hq⟩ := spots_of Try.underlying40 ht'
      refine ⟨q, B, c, ?_, hq⟩
      have := hat 0 (by omega)
      rw [add_zero_] at this
      rw [this]
      rfl
    obtain ⟨l, hlen, hall⟩ := pick_list len each
    refine ⟨some a, cap, l, by rw [hlen], fun k hk => ?_⟩
    obtain ⟨B, c, h1, h2⟩ := hall k hk
    exact ⟨a, B, c, rfl, fun w' he => he.cell h1, h2⟩

set_option maxRecDepth 100000 in
theorem arg_link {r : Reach} {b0 : Nat} {v : Value} {d : DataW H} {p : List MemPlace} (hv : Value.okWide Try.prog w r b0 25 v) (h : DataW.Trod enc Try.prog w base (fun _ => true) held 25 v d p) :
    ∃ (A : Option Addr) (c : Nat) (ps : List (List Sp)) (B : Option Addr) (d : Nat) (hs : List Hg), v = .agg #[.slice A ps.length c, .slice B hs.length d] ∧ PnRow w A ps ∧ HRow w B hs := by
  obtain ⟨v0, v1, y0, y1, n, rfl, _, _, h0, h1⟩ := Joins.open_agg2 Try.underlying25 (by kernel_rfl) (by kernel_rfl) hv h
  obtain ⟨A, c, ps, rfl, hp⟩ := panels_of h0
  obtain ⟨B, d, hs, rfl, hh⟩ := hinges_of h1
  exact ⟨A, c, ps, B, d, hs, rfl, hp, hh⟩
set_option maxRecDepth 100000 in
theorem arg_spot {r : Reach} {b0 : Nat} {v : Value} {d : DataW H} {p : List MemPlace} (hv : Value.okWide Try.prog w r b0 27 v) (h : DataW.Trod enc Try.prog w base (fun _ => true) held 27 v d p) : ∃ s : Sp, v = s.val := by
  obtain ⟨cs, rfl, hsz⟩ := okWide_struct Try.underlying27 hv
  obtain ⟨fuel, hf⟩ := h
  obtain ⟨s, hs⟩ := spot_of hf rfl
  have hs : cs.toList = s.cells := hs
  refine ⟨s, ?_⟩
  show Value.agg cs = .agg #[vint s.x, vint s.y]
  congr 1
  exact Array.toList_inj.1 hs
set_option maxRecDepth 100000 in
theorem arg_panel {r : Reach} {b0 : Nat} {v : Value} {d : DataW H} {p : List MemPlace} (hv : Value.okWide Try.prog w r b0 40 v) (h : DataW.Trod enc Try.prog w base (fun _ => true) held 40 v d p) :
    ∃ (A : Option Addr) (c : Nat) (l : List Sp), v = .slice A l.length c ∧ SRow w A l := by
  obtain ⟨A0, len0, cap0, rfl⟩ := okWide_slice Try.underlying40 hv
  obtain ⟨fuel, hf⟩ := h
  exact spots_of Try.underlying40 hf
set_option maxRecDepth 100000 in
theorem arg_int {v : Value} {d : DataW H} {p : List MemPlace} {r : Reach} {b0 : Nat} (hv : Value.okWide Try.prog w r b0 3 v) (h : DataW.Trod enc Try.prog w base (fun _ => true) held 3 v d p) : ∃ t, v = .int .i64 t ∧ (-9223372036854775808 ≤ t ∧ t ≤ 9223372036854775807) := by
  obtain ⟨t, e, _, _, hw⟩ := open_int Try.underlying3 hv h
  exact ⟨t, e, i64_bounds hw⟩
set_option maxRecDepth 100000 in
theorem arg_ints {v : Value} {d : DataW H} {p : List MemPlace} {r : Reach} {b0 : Nat} (hv : Value.okWide Try.prog w r b0 30 v) (h : DataW.Trod enc Try.prog w base (fun _ => true) held 30 v d p) :
    ∃ (A : Option Addr) (c : Nat) (xs : List Int), v = .slice A xs.length c ∧ Ints w A xs ∧ (∀ x ∈ xs, -9223372036854775808 ≤ x ∧ x ≤ 9223372036854775807) := by
  obtain ⟨A0, len0, cap0, rfl⟩ := okWide_slice Try.underlying30 hv
  obtain ⟨fuel, hf⟩ := h
  obtain ⟨A, c, xs, e, hi, _, hb⟩ := ints_of hf
  exact ⟨A, c, xs, e, hi, hb⟩
/-- Numbers of 64 bits. -/
def i64P (x : Int) : Prop := -9223372036854775808 ≤ x ∧ x ≤ 9223372036854775807
theorem open_fields {P : Program} {r : Reach} {b0 : Nat} {spare : Nat → Bool} {t : TypeId} {fs : Array Field} {v : Value} {d : DataW H} {p : List MemPlace} (hs : P.underlying t = some (.struct fs)) (hone : oneCellFields P fs = true) (hC : P.cellsOf t = fs.size)
    (hv : Value.okWide P w r b0 t v) (h : DataW.Trod enc P w base spare held t v d p) :
    ∃ (cs : Array Value) (n : Nat), v = .agg cs ∧ cs.size = fs.size ∧ ∀ (j : Nat) (f : Field), fs[j]? = some f → ∃ (u : Value) (y : DataW H × List MemPlace), cs[j]? = some u ∧ DataW.trod enc P w base spare held n f.type [u] = some y := by
  obtain ⟨cs, rfl, hsz⟩ := okWide_struct hs hv
  obtain ⟨fuel, hf⟩ := h
  obtain ⟨ys, n, _, _, hlen, hyl, hfl⟩ := DataW.trod_struct hs hf
  have hsz' : cs.size = fs.size := hsz.trans hC
  refine ⟨cs, n, rfl, hsz', fun j f hj => ?_⟩
  obtain ⟨ho, hk⟩ := hone_of hone j f hj
  have hjl : j < fs.size := (Array.getElem?_eq_some_iff.1 hj).1
  have h1 := hfl j f hj
  rw [ho, hk] at h1
  have hcl : (Value.cells (.agg cs)).toList = cs.toList := rfl
  rw [hcl] at h1
  have hone' : (cs.toList.drop j).take 1 = [cs[j]'(by omega)] := by
    rw [List.drop_eq_getElem_cons (by simp; omega)]
    simp
  rw [hone'] at h1
  have hys : ys[j]? = some (ys[j]'(by omega)) := List.getElem?_eq_getElem (by omega)
  exact ⟨_, _, Array.getElem?_eq_getElem (by omega), h1.trans hys⟩
theorem array6 {α : Type} {cs : Array α} (h : cs.size = 6) : ∃ c0 c1 c2 c3 c4 c5, cs = #[c0, c1, c2, c3, c4, c5] := by
  obtain ⟨l⟩ := cs
  match l, h with
  | [c0, c1, c2, c3, c4, c5], _ => exact ⟨c0, c1, c2, c3, c4, c5, rfl⟩
/-- A proof as an argument. -/
structure AprOk (w : World) (r : Apr) (I : Option Addr) : Prop where
  ins : Ints w I r.ins
  a : i64P r.A
  b : i64P r.B
  c : i64P r.C
  e : i64P r.E
  x : ∀ x ∈ r.ins, i64P x
abbrev Apr.val (r : Apr) (I : Option Addr) (ic : Nat) : Value := .agg #[.bool r.clear, vint r.A, vint r.B, vint r.C, vint r.E, .slice I r.ins.length ic]
set_option maxRecDepth 100000 in
theorem arg_apart {r : Reach} {b0 : Nat} {v : Value} {d : DataW H} {p : List MemPlace} (hv : Value.okWide Try.prog w r b0 67 v) (h : DataW.Trod enc Try.prog w base (fun _ => true) held 67 v d p) :
    ∃ (x : Apr) (I : Option Addr) (ic : Nat), v = x.val I ic ∧ AprOk w x I := by
  obtain ⟨cs, n, rfl, hsz, hf⟩ := open_fields Try.underlying67 (by kernel_rfl) (by kernel_rfl) hv h
  obtain ⟨c0, c1, c2, c3, c4, c5, rfl⟩ := array6 hsz
  obtain ⟨v0, y0, e0, h0⟩ := hf 0 _ rfl
  obtain ⟨v1, y1, e1, h1⟩ := hf 1 _ rfl
  obtain ⟨v2, y2, e2, h2⟩ := hf 2 _ rfl
  obtain ⟨v3, y3, e3, h3⟩ := hf 3 _ rfl
  obtain ⟨v4, y4, e4, h4⟩ := hf 4 _ rfl
  obtain ⟨v5, y5, e5, h5⟩ := hf 5 _ rfl
  obtain ⟨b, hb, _⟩ := DataW.trod_bool Try.underlying4 h0
  obtain ⟨x1, rfl, w1⟩ := int_of h1
  obtain ⟨x2, rfl, w2⟩ := int_of h2
  obtain ⟨x3, rfl, w3⟩ := int_of h3
  obtain ⟨x4, rfl, w4⟩ := int_of h4
  obtain ⟨I, ic, xs, rfl, hi, _, hx⟩ := ints_of h5
  obtain rfl : v0 = .bool b := by simpa using hb
  obtain rfl : c0 = .bool b := by injection e0
  obtain rfl : c1 = .int .i64 x1 := by injection e1
  obtain rfl : c2 = .int .i64 x2 := by injection e2
  obtain rfl : c3 = .int .i64 x3 := by injection e3
  obtain rfl : c4 = .int .i64 x4 := by injection e4
  obtain rfl : c5 = .slice I xs.length ic := by injection e5
  exact ⟨⟨b, x1, x2, x3, x4, xs⟩, I, ic, rfl, hi, i64_bounds w1, i64_bounds w2, i64_bounds w3, i64_bounds w4, hx⟩
end
end Go.Proofs.Yteilglljigjefaa
