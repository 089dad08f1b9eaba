/- 'm[k] = append(m[k], v)' on a map of slices of the call's own, as the translation has it: the entry is made first, the slice is stored behind the append. No program in sight. -/
import Derived.Test.YtebkhdhhajjhfaaGreatT01
import Derived.Maps.OwnRows
import Derived.WideKeyEntry
import Derived.Test.YtebkhdhhajjhfaaGreatT18
import Derived.Test.YtebkhdhhajjhfaaGreatT21
namespace Go.Proofs.YtebkhdhhajjhfaaGreat.Lt
open Go Go.ChangeMaps Go.MapKept Go.RowKit
open Go.WideElems (Fit rd rg pl rd_val rd_key rg_of entry_then_store)
open Go.Maps (Keyed)
section
variable {H : Type} {P : Program} {w : World} {t k E e : TypeId} {q : IntKind} {base b n : Nat} {D : DataW H}
theorem same_entry (K : Keyed P k) {R : Value → Option (DataW H × List MemPlace)} {es : Array MapEntry} {clock : Nat} (F : Fit P k R es clock) {x y : MapEntry} (hx : x ∈ es.toList) (hy : y ∈ es.toList) (h : x.key = y.key) : x = y := by
  have hp := List.pairwise_map.1 (Maps.fit_apart K F)
  have hk : (rg P k R x).1 = (rg P k R y).1 := by
    obtain ⟨u, hu⟩ := F.reads x hx
    obtain ⟨v, hv⟩ := F.reads y hy
    rw [rg_of hu, rg_of hv]
    have h1 := rd_key hu
    have h2 := rd_key hv
    rw [h, h2] at h1
    exact (Option.some.inj h1).symm
  obtain ⟨i, hi, rfl⟩ := List.getElem_of_mem hx
  obtain ⟨j, hj, rfl⟩ := List.getElem_of_mem hy
  have hp2 := List.pairwise_iff_getElem.1 hp
  rcases Nat.lt_trichotomy i j with h1 | h1 | h1
  · exact absurd hk (hp2 i j hi hj h1)
  · subst h1; rfl
  · exact absurd hk.symm (hp2 j i hj hi h1)
theorem setBlock_inj {es : Array MapEntry} {clock : Nat} {o o' : Obj} (hb : w.heap[b]? = some (.map es clock)) (h : setBlock w b o = setBlock w b o') : o = o' := by
  have h1 := heap_setBlock_same hb o
  rw [h, heap_setBlock_same hb o'] at h1
  exact (Option.some.inj h1).symm
theorem set_grown {es es' : Array MapEntry} {clock clock' : Nat} (hb : w.heap[b]? = some (.map es clock)) : w.grownBy (setBlock w b (.map es' clock')) (some b) :=
  ⟨rfl, rfl, rfl, by simp [setBlock], fun i _ hi => heap_setBlock_other hb _ (fun e1 => hi (by rw [e1]))⟩
/-- The way back behind an entry that has been made. -/
def EntryBack (w1 : World) (P : Program) (t k base e : Nat) (q : IntKind) (b n : Nat) (D : DataW H) (kl : Lit) (v : Value) (st : Nat) : Prop :=
  ∀ (w2 : World) (v' : Value) (zs' : List Int), w1.grownBy w2 v.ownBlock → w2.ownsInts base e q v' zs' → zs'.length ≤ n + 1 → (v'.ownBlock = v.ownBlock ∨ ∃ g, v'.ownBlock = some g ∧ w1.heap.size ≤ g) →
    ∃ w3, (Instr.entryStore t (.map (some b)) (goInt st) v').run P w2 = .ok () w3 ∧ w3.ownsGroups P k base e q b (n + 1) (D.put kl (rowDatum q v' zs')) ∧ w2.grownBy w3 (some b)
theorem groups_entry (h : w.ownsGroups P k base e q b n D) (KL : WideMaps.KeyLaw P k) (ht : P.underlying t = some (.map k E)) (hz : ∀ u : World, (zeroValue E).run P u = .ok (.slice none 0 0) u) (hn : n < maxLen) {key : Value} {kl : Lit} (hkey : keyOf P k key = some kl) :
    ∃ (v : Value) (zs : List Int) (st : Nat) (w1 : World), (Instr.mapEntry t (.map (some b)) key).run P w = .ok (.tuple #[v, goInt st]) w1 ∧ w.grownBy w1 (some b) ∧ D.atKey kl .nil = rowDatum q v zs ∧ w1.ownsInts base e q v zs ∧ zs.length ≤ n ∧ EntryBack w1 P t k base e q b n D kl v st := by
  have K : Keyed P k := Keyed.of_law KL
  obtain ⟨es, clock, hb, F, hs, rfl, hbb, hlen, hap⟩ := h
  obtain ⟨v0, st, es1, clock1, hrun, hcase, hback⟩ := entry_then_store KL ht hz hb F hkey
  have hblt : b < w.heap.size := (Array.getElem?_eq_some_iff.1 hb).1
  have hg1 : w.grownBy (setBlock w b (.map es1 clock1)) (some b) := set_grown hb
  have hb1 : (setBlock w b (.map es1 clock1)).heap[b]? = some (.map es1 clock1) := heap_setBlock_same hb _
  have owned : ∀ x ∈ es.toList, ∃ zs, w.ownsInts base e q x.val zs := fun x hx => by
    obtain ⟨y, hy⟩ := F.reads x hx
    obtain ⟨z, hz, _⟩ := rd_val hy
    obtain ⟨zs, ho, _⟩ := rowElem_inv hz
    exact ⟨zs, ho⟩
  have ne_b : ∀ {W : World} {u : Value} {ys : List Int}, W.ownsInts base e q u ys → u.ownBlock = none ∨ u.ownBlock ≠ some b := fun {W u ys} ho => by
    cases hu : u.ownBlock with
    | none => exact .inl rfl
    | some g =>
      refine .inr fun e1 => ?_
      have := (ho.1.lt g hu).1
      cases e1
      omega
  have key1 : ∃ zs, (DataW.map ((es.toList.map (rg P k (rowElem (H := H) w base e q))).foldr DataW.insert [])).atKey kl .nil = rowDatum q v0 zs ∧ w.ownsInts base e q v0 zs ∧ zs.length ≤ n ∧ (∀ x ∈ es.toList, x.key ≠ key → x.val.ownBlock = none ∨ x.val.ownBlock ≠ v0.ownBlock) := by
    rcases Maps.fit_look false K ht (hz w) hb F hkey with ⟨_, hno, hat⟩ | ⟨e1, y, hm1, h3, _, hR, hat, _⟩
    · rcases hcase with ⟨e0, hm0, hk0, _⟩ | ⟨_, rfl⟩
      · exact absurd hk0 (hno e0 hm0)
      · refine ⟨[], by rw [hat]; rfl, World.ownsInts_nil _ _ _ _, Nat.zero_le _, fun x hx _ => ?_⟩
        cases x.val.ownBlock with
        | none => exact .inl rfl
        | some g => exact .inr (by simp [Value.ownBlock])
    · obtain ⟨zs, ho, rfl⟩ := rowElem_inv hR
      rcases hcase with ⟨e0, hm0, hk0, rfl⟩ | ⟨hno, _⟩
      · have ee : e0 = e1 := same_entry K F hm0 hm1 (hk0.trans h3.symm)
        subst ee
        exact ⟨zs, hat _, ho, hlen e0 hm0 zs ho, fun x hx hne => hap x hx e0 hm0 (by rw [hk0]; exact hne)⟩
      · exact absurd h3 (hno e1 hm1)
  obtain ⟨zs, hat, ho, hzl, hv⟩ := key1
  have ho1 : (setBlock w b (.map es1 clock1)).ownsInts base e q v0 zs := ho.kept hg1 (ne_b ho)
  refine ⟨v0, zs, st, _, hrun, hg1, hat, ho1, hzl, fun w2 v' zs' hg hown' hl' hloc => ?_⟩
  have hvb : some b ≠ v0.ownBlock := fun e1 => by
    rcases ne_b ho with h1 | h1
    · rw [h1] at e1; cases e1
    · exact h1 e1.symm
  have hb2 : w2.heap[b]? = some (.map es1 clock1) := (hg.block b (by simpa [setBlock] using hblt) hvb).trans hb1
  obtain ⟨es', clock', hst, hmu⟩ := hback w2 v' hb2
  have kept2 : ∀ x ∈ es.toList, x.key ≠ key → ∀ ys, w.ownsInts base e q x.val ys → w2.ownsInts base e q x.val ys := fun x hx hne ys hy => (hy.kept hg1 (ne_b hy)).kept hg (hv x hx hne)
  obtain ⟨es'', clock'', hrun2, F', hput, _, _, hwho⟩ := Maps.fit_store (R' := rowElem (H := H) w2 base e q) K ht hb F (Nat.lt_of_le_of_lt hs hn) (fun x hx hne z hz => by
    obtain ⟨ys, hy, rfl⟩ := rowElem_inv hz
    exact rowElem_mk (kept2 x hx hne ys hy)) hkey (rowElem_mk hown')
  rw [hmu] at hrun2
  have hoo := setBlock_inj hb (by simpa using hrun2)
  cases hoo
  have hg3 : w2.grownBy (setBlock w2 b (.map es' clock')) (some b) := set_grown hb2
  have same3 : ∀ {u : Value} {ys : List Int}, w2.ownsInts base e q u ys → (setBlock w2 b (.map es' clock')).ownsInts base e q u ys := fun ho => ho.kept hg3 (ne_b ho)
  obtain ⟨F2, hmap2, _⟩ := F'.stay (R' := rowElem (H := H) (setBlock w2 b (.map es' clock')) base e q) (fun x _ z hz => by
    obtain ⟨ys, hy, rfl⟩ := rowElem_inv hz
    exact rowElem_mk (same3 hy))
  have far : ∀ x ∈ es.toList, x.key ≠ key → x.val.ownBlock = none ∨ x.val.ownBlock ≠ v'.ownBlock := fun x hx hne => by
    rcases hloc with h1 | ⟨g, h1, h2⟩
    · rw [h1]
      exact hv x hx hne
    · cases hx' : x.val.ownBlock with
      | none => exact .inl rfl
      | some gx =>
        obtain ⟨ys, hy⟩ := owned x hx
        have h4 := (hy.1.lt gx hx').2
        refine .inr fun e1 => ?_
        rw [h1] at e1
        cases e1
        have : (setBlock w b (.map es1 clock1)).heap.size = w.heap.size := by simp [setBlock]
        omega
  refine ⟨_, hst, ⟨es', clock', heap_setBlock_same hb2 _, F2, ?_, ?_, hbb, ?_, ?_⟩, hg3⟩
  · have e1 : es'.size = ((es'.toList.map (rg P k (rowElem (H := H) w2 base e q))).foldr DataW.insert []).length := by rw [length_sorted]; simp
    rw [e1, hput]
    unfold putKey
    rw [length_insert]
    have e2 := List.length_filter_le (notKey kl) ((es.toList.map (rg P k (rowElem (H := H) w base e q))).foldr DataW.insert [])
    rw [length_sorted] at e2
    simp at e2
    omega
  · rw [hmap2, DataW.put_eq, hput]
  · intro x hx ys hy
    have hx2 : w2.ownsInts base e q x.val ys := by
      obtain ⟨y, hy2⟩ := F'.reads x hx
      obtain ⟨z, hz, _⟩ := rd_val hy2
      obtain ⟨ys', hy', _⟩ := rowElem_inv hz
      rw [hy.unique (same3 hy')]
      exact hy'
    rcases hwho x hx with ⟨hx0, hne⟩ | ⟨_, hval⟩
    · obtain ⟨ys0, hy0⟩ := owned x hx0
      have := hlen x hx0 ys0 hy0
      rw [hx2.unique (kept2 x hx0 hne ys0 hy0)]
      omega
    · rw [hval] at hx2
      rw [hx2.unique hown']
      exact hl'
  · intro x hx y hy hne
    rcases hwho x hx with ⟨hx0, hxk⟩ | ⟨hxk, hxv⟩
    · rcases hwho y hy with ⟨hy0, hyk⟩ | ⟨hyk, hyv⟩
      · exact hap x hx0 y hy0 hne
      · rw [hyv]
        exact far x hx0 hxk
    · rcases hwho y hy with ⟨hy0, hyk⟩ | ⟨hyk, hyv⟩
      · rw [hxv]
        cases hv' : v'.ownBlock with
        | none => exact .inl rfl
        | some g =>
          refine .inr fun e1 => ?_
          rcases far y hy0 hyk with h1 | h1
          · rw [h1] at e1; cases e1
          · exact h1 (by rw [hv', e1])
      · exact absurd (hxk.trans hyk.symm) hne
end
end Go.Proofs.YtebkhdhhajjhfaaGreat.Lt

/- Cells, knobs, bricks and kinds of the lattice; how they lie in memory. -/
namespace Go.Proofs.YtebkhdhhajjhfaaGreat.Lt
open Go.RowKit
structure Ce where
  x : Int
  y : Int
  z : Int
deriving DecidableEq
instance : Inhabited Ce := ⟨⟨0, 0, 0⟩⟩
structure Kn where
  at_ : Ce
  dir : Int
  srt : Int
deriving DecidableEq
structure Br where
  kind : Int
  at_ : Ce
  trn : Int
  col : Int
deriving DecidableEq
instance : Inhabited Br := ⟨⟨0, ⟨0, 0, 0⟩, 0, 0⟩⟩
structure Ki where
  cs : List Ce
  ks : List Kn
  wt : Int
instance : Inhabited Ki := ⟨⟨[], [], 0⟩⟩
def ceA (l : List Ce) (k : Nat) : Ce := l.getD k default
theorem ceA_at {l : List Ce} {k : Nat} (h : k < l.length) : ceA l k = l[k] := by simp [ceA, List.getD, h]
def brA (l : List Br) (k : Nat) : Br := l.getD k default
theorem brA_at {l : List Br} {k : Nat} (h : k < l.length) : brA l k = l[k] := by simp [brA, List.getD, h]
def kiA (l : List Ki) (k : Nat) : Ki := l.getD k default
abbrev vu8 (x : Int) : Value := .int .u8 x

def Ce.cells (s : Ce) : List Value := [vint s.x, vint s.y, vint s.z]
abbrev Ce.val (s : Ce) : Value := .agg #[vint s.x, vint s.y, vint s.z]
def CeRow (w : World) (A : Option Addr) (l : List Ce) : Prop := Row w A (l.map Ce.cells).flatten
theorem CeRow.ext {w w' : World} {A : Option Addr} {l : List Ce} (h : CeRow w A l) (he : Ext w w') : CeRow w' A l := Row.ext h he
theorem Ce.cells_len (l : List Ce) : (l.map Ce.cells).flatten.length = l.length * 3 := by
  rw [flatten_len 3 _ (by simp [Ce.cells]), List.length_map]
theorem CeRow.at_ {w : World} {A : Option Addr} {l : List Ce} (h : CeRow w A l) {k : Nat} (hk : k < l.length) :
    ∃ ad, A = some ad ∧ (∀ w', Ext w w' → w'.cell? (ad.add (k * 3)) = some (.int .i64 (ceA l k).x)) ∧
      (∀ w', Ext w w' → w'.cell? ⟨(ad.add (k * 3)).block, (ad.add (k * 3)).off + 1, none⟩ = some (.int .i64 (ceA l k).y)) ∧
      (∀ w', Ext w w' → w'.cell? ⟨(ad.add (k * 3)).block, (ad.add (k * 3)).off + 2, none⟩ = some (.int .i64 (ceA l k).z)) := by
  rw [ceA_at hk]
  obtain ⟨ad, ha, hc⟩ := Row.struct (size := 3) h (by simp [Ce.cells]) (k := k) (by simpa using hk) (by omega)
  refine ⟨ad, ha, fun w' he => ?_, fun w' he => ?_, fun w' he => ?_⟩
  · have := hc 0 (by omega) w' he
    rw [add_zero_] at this
    simpa [Ce.cells] using this
  · have := hc 1 (by omega) w' he
    rw [add_lit _ _ (by omega)] at this
    simpa [Ce.cells] using this
  · have := hc 2 (by omega) w' he
    rw [add_lit _ _ (by omega)] at this
    simpa [Ce.cells] using this

def Kn.cells (s : Kn) : List Value := [vint s.at_.x, vint s.at_.y, vint s.at_.z, vu8 s.dir, vu8 s.srt]
abbrev Kn.val (s : Kn) : Value := .agg #[vint s.at_.x, vint s.at_.y, vint s.at_.z, vu8 s.dir, vu8 s.srt]
def KnRow (w : World) (A : Option Addr) (l : List Kn) : Prop := Row w A (l.map Kn.cells).flatten
theorem KnRow.ext {w w' : World} {A : Option Addr} {l : List Kn} (h : KnRow w A l) (he : Ext w w') : KnRow w' A l := Row.ext h he
theorem KnRow.nil (w : World) (A : Option Addr) : KnRow w A [] := Row.nil w A
def Br.cells (s : Br) : List Value := [vint s.kind, vint s.at_.x, vint s.at_.y, vint s.at_.z, vu8 s.trn, vu8 s.col]
abbrev Br.val (s : Br) : Value := .agg #[vint s.kind, vint s.at_.x, vint s.at_.y, vint s.at_.z, vu8 s.trn, vu8 s.col]
def BrRow (w : World) (A : Option Addr) (l : List Br) : Prop := Row w A (l.map Br.cells).flatten
theorem BrRow.ext {w w' : World} {A : Option Addr} {l : List Br} (h : BrRow w A l) (he : Ext w w') : BrRow w' A l := Row.ext h he
theorem BrRow.at_ {w : World} {A : Option Addr} {l : List Br} (h : BrRow w A l) {k : Nat} (hk : k < l.length) :
    ∃ ad, A = some ad ∧ (∀ w', Ext w w' → w'.cell? (ad.add (k * 6)) = some (.int .i64 (brA l k).kind)) ∧
      (∀ w', Ext w w' → w'.cell? ⟨(ad.add (k * 6)).block, (ad.add (k * 6)).off + 1, none⟩ = some (.int .i64 (brA l k).at_.x)) ∧
      (∀ w', Ext w w' → w'.cell? ⟨(ad.add (k * 6)).block, (ad.add (k * 6)).off + 2, none⟩ = some (.int .i64 (brA l k).at_.y)) ∧
      (∀ w', Ext w w' → w'.cell? ⟨(ad.add (k * 6)).block, (ad.add (k * 6)).off + 3, none⟩ = some (.int .i64 (brA l k).at_.z)) ∧
      (∀ w', Ext w w' → w'.cell? ⟨(ad.add (k * 6)).block, (ad.add (k * 6)).off + 4, none⟩ = some (.int .u8 (brA l k).trn)) ∧
      (∀ w', Ext w w' → w'.cell? ⟨(ad.add (k * 6)).block, (ad.add (k * 6)).off + 5, none⟩ = some (.int .u8 (brA l k).col)) := by
  rw [brA_at hk]
  obtain ⟨ad, ha, hc⟩ := Row.struct (size := 6) h (by simp [Br.cells]) (k := k) (by simpa using hk) (by omega)
  refine ⟨ad, ha, fun w' he => ?_, fun w' he => ?_, fun w' he => ?_, fun w' he => ?_, fun w' he => ?_, fun w' he => ?_⟩
  · have := hc 0 (by omega) w' he
    rw [add_zero_] at this
    simpa [Br.cells] using this
  · have := hc 1 (by omega) w' he
    rw [add_lit _ _ (by omega)] at this
    simpa [Br.cells] using this
  · have := hc 2 (by omega) w' he
    rw [add_lit _ _ (by omega)] at this
    simpa [Br.cells] using this
  · have := hc 3 (by omega) w' he
    rw [add_lit _ _ (by omega)] at this
    simpa [Br.cells] using this
  · have := hc 4 (by omega) w' he
    rw [add_lit _ _ (by omega)] at this
    simpa [Br.cells] using this
  · have := hc 5 (by omega) w' he
    rw [add_lit _ _ (by omega)] at this
    simpa [Br.cells] using this

/-- Kinds: each with the slices of its cells and its knobs. -/
def KiRow (w : World) (A : Option Addr) (l : List Ki) : Prop := ∀ k, k < l.length → ∃ ad B b D d, A = some ad ∧ (∀ w', Ext w w' → w'.cell? (ad.add (k * 3)) = some (.slice B (kiA l k).cs.length b)) ∧
  (∀ w', Ext w w' → w'.cell? ⟨(ad.add (k * 3)).block, (ad.add (k * 3)).off + 1, none⟩ = some (.slice D (kiA l k).ks.length d)) ∧
  (∀ w', Ext w w' → w'.cell? ⟨(ad.add (k * 3)).block, (ad.add (k * 3)).off + 2, none⟩ = some (vint (kiA l k).wt)) ∧ CeRow w B (kiA l k).cs ∧ KnRow w D (kiA l k).ks
theorem KiRow.ext {w w' : World} {A : Option Addr} {l : List Ki} (h : KiRow w A l) (he : Ext w w') : KiRow w' A l := fun k hk => by
  obtain ⟨ad, B, b, D, d, h1, h2, h3, h4, h5, h6⟩ := h k hk
  exact ⟨ad, B, b, D, d, h1, fun w2 h => h2 w2 (he.trans h), fun w2 h => h3 w2 (he.trans h), fun w2 h => h4 w2 (he.trans h), h5.ext he, h6.ext he⟩
end Go.Proofs.YtebkhdhhajjhfaaGreat.Lt

/- Turns of cells, and their order. Plain Lean. -/
namespace Go.Proofs.YtebkhdhhajjhfaaGreat.Lt
def plusC (a b : Ce) : Ce := ⟨a.x + b.x, a.y + b.y, a.z + b.z⟩
def rotZ (c : Ce) : Ce := ⟨-c.y, c.x, c.z⟩
def rotX (c : Ce) : Ce := ⟨c.x, -c.z, c.y⟩
def rotN : Nat → Ce → Ce
  | 0, c => c
  | n + 1, c => rotZ (rotN n c)
def sixth (m : Nat) (c : Ce) : Ce := match m with
  | 0 => c
  | 1 => rotX c
  | 2 => rotX (rotX c)
  | 3 => rotX (rotX (rotX c))
  | 4 => ⟨c.z, c.x, c.y⟩
  | _ => ⟨-c.z, -c.x, c.y⟩
def turnC (c : Ce) (n : Nat) : Ce := sixth (n / 4) (rotN (n % 4) c)
def nearP (c : Ce) (lo hi : Int) : Prop := (lo ≤ c.x ∧ c.x ≤ hi) ∧ (lo ≤ c.y ∧ c.y ≤ hi) ∧ lo ≤ c.z ∧ c.z ≤ hi
instance (c : Ce) (lo hi : Int) : Decidable (nearP c lo hi) := by unfold nearP; infer_instance
def nearB (c : Ce) (lo hi : Int) : Bool := decide (nearP c lo hi)
theorem rotZ_near {c : Ce} {m : Int} (h : nearP c (-m) m) : nearP (rotZ c) (-m) m := by unfold nearP rotZ at *; simp only; omega
theorem rotX_near {c : Ce} {m : Int} (h : nearP c (-m) m) : nearP (rotX c) (-m) m := by unfold nearP rotX at *; simp only; omega
theorem rotN_near {c : Ce} {m : Int} (h : nearP c (-m) m) : ∀ n, nearP (rotN n c) (-m) m
  | 0 => h
  | n + 1 => rotZ_near (rotN_near h n)
theorem sixth_near {c : Ce} {m : Int} (h : nearP c (-m) m) (n : Nat) : nearP (sixth n c) (-m) m := by
  unfold sixth
  split
  · exact h
  · exact rotX_near h
  · exact rotX_near (rotX_near h)
  · exact rotX_near (rotX_near (rotX_near h))
  · unfold nearP at *; simp only; omega
  · unfold nearP at *; simp only; omega
theorem turnC_near {c : Ce} {m : Int} (h : nearP c (-m) m) (n : Nat) : nearP (turnC c n) (-m) m := sixth_near (rotN_near h _) _
theorem rotZ_inj {a b : Ce} (h : rotZ a = rotZ b) : a = b := by
  obtain ⟨a1, a2, a3⟩ := a
  obtain ⟨b1, b2, b3⟩ := b
  simp only [rotZ, Ce.mk.injEq] at h ⊢
  omega
theorem rotX_inj {a b : Ce} (h : rotX a = rotX b) : a = b := by
  obtain ⟨a1, a2, a3⟩ := a
  obtain ⟨b1, b2, b3⟩ := b
  simp only [rotX, Ce.mk.injEq] at h ⊢
  omega
theorem rotN_inj {a b : Ce} : ∀ {n : Nat}, rotN n a = rotN n b → a = b
  | 0, h => h
  | _ + 1, h => rotN_inj (rotZ_inj h)
theorem sixth_inj {a b : Ce} {n : Nat} (h : sixth n a = sixth n b) : a = b := by
  unfold sixth at h
  split at h
  · exact h
  · exact rotX_inj h
  · exact rotX_inj (rotX_inj h)
  · exact rotX_inj (rotX_inj (rotX_inj h))
  · obtain ⟨a1, a2, a3⟩ := a
    obtain ⟨b1, b2, b3⟩ := b
    simp only [Ce.mk.injEq] at h ⊢
    omega
  · obtain ⟨a1, a2, a3⟩ := a
    obtain ⟨b1, b2, b3⟩ := b
    simp only [Ce.mk.injEq] at h ⊢
    omega
theorem turnC_inj {a b : Ce} {n : Nat} (h : turnC a n = turnC b n) : a = b := rotN_inj (sixth_inj h)
theorem plusC_inj {a b c : Ce} (h : plusC a c = plusC b c) : a = b := by
  obtain ⟨a1, a2, a3⟩ := a
  obtain ⟨b1, b2, b3⟩ := b
  simp only [plusC, Ce.mk.injEq] at h ⊢
  omega
/-- The order of cells. -/
def ordC (a b : Ce) : Int := if cmpI a.z b.z ≠ 0 then cmpI a.z b.z else if cmpI a.y b.y ≠ 0 then cmpI a.y b.y else cmpI a.x b.x
theorem cmpI_zero {a b : Int} : cmpI a b = 0 ↔ a = b := by
  unfold cmpI
  by_cases h1 : a < b
  · rw [if_pos h1]; omega
  · by_cases h2 : b < a
    · rw [if_neg h1, if_pos h2]; omega
    · rw [if_neg h1, if_neg h2]; omega
theorem cmpI_neg {a b : Int} : cmpI a b < 0 ↔ a < b := by
  unfold cmpI
  by_cases h1 : a < b
  · rw [if_pos h1]; omega
  · by_cases h2 : b < a
    · rw [if_neg h1, if_pos h2]; omega
    · rw [if_neg h1, if_neg h2]; omega
/-- A cell comes before another one. -/
def befC (a b : Ce) : Prop := a.z < b.z ∨ a.z = b.z ∧ (a.y < b.y ∨ a.y = b.y ∧ a.x < b.x)
theorem ordC_neg {a b : Ce} : ordC a b < 0 ↔ befC a b := by
  unfold ordC befC
  by_cases h1 : cmpI a.z b.z = 0
  · rw [if_neg (by simpa using h1)]
    have e1 := cmpI_zero.1 h1
    by_cases h2 : cmpI a.y b.y = 0
    · rw [if_neg (by simpa using h2), cmpI_neg]
      have e2 := cmpI_zero.1 h2
      omega
    · rw [if_pos h2, cmpI_neg]
      have e2 : a.y ≠ b.y := fun e => h2 (cmpI_zero.2 e)
      omega
  · rw [if_pos h1, cmpI_neg]
    have e1 : a.z ≠ b.z := fun e => h1 (cmpI_zero.2 e)
    omega
theorem befC_irrefl (a : Ce) : ¬ befC a a := by unfold befC; omega
theorem befC_trans {a b c : Ce} (h : befC a b) (k : befC b c) : befC a c := by unfold befC at *; omega
/-- Cells in order are all different. -/
theorem asc_nodup {l : List Ce} (h : ∀ i, i + 1 < l.length → befC (ceA l i) (ceA l (i + 1))) : l.Nodup := by
  have key : ∀ d i, i + (d + 1) < l.length → befC (ceA l i) (ceA l (i + (d + 1))) := by
    intro d
    induction d with
    | zero => intro i hi; exact h i hi
    | succ d ih => intro i hi; exact befC_trans (ih i (by omega)) (h (i + (d + 1)) hi)
  rw [List.nodup_iff_pairwise_ne, List.pairwise_iff_getElem]
  intro i j hi hj hij e
  have h1 := key (j - i - 1) i (by omega)
  rw [show i + (j - i - 1 + 1) = j by omega, ceA_at hi, ceA_at hj, e] at h1
  exact befC_irrefl _ h1
/-- The cells of a brick. -/
def placed (cs : List Ce) (t : Nat) (at_ : Ce) : List Ce := cs.map fun c => plusC (turnC c t) at_
theorem placed_nodup {cs : List Ce} (h : cs.Nodup) (t : Nat) (at_ : Ce) : (placed cs t at_).Nodup := by
  unfold placed List.Nodup
  rw [List.pairwise_map]
  exact h.imp fun {a b} hab e => hab (turnC_inj (plusC_inj e))
theorem placed_near {cs : List Ce} (h : ∀ c ∈ cs, nearP c (-1000) 1000) {at_ : Ce} (hat : nearP at_ (-1000) 1000) (t : Nat) {c : Ce} (hc : c ∈ placed cs t at_) : nearP c (-2000) 2000 := by
  obtain ⟨d, hd, rfl⟩ := List.mem_map.1 hc
  have h1 := turnC_near (h d hd) t
  unfold nearP plusC at *
  simp only
  omega
end Go.Proofs.YtebkhdhhajjhfaaGreat.Lt

/- Cells: in range, sums, turns about an axis; numbers that are turns. -/
namespace Go.Proofs.YtebkhdhhajjhfaaGreat.Lt
open Go.RowKit
theorem results_ce {fn : Func} {t : Tmp} (h : fn.results = #[.cell t 60]) (tmps : Array Value) (w : World) {g : Nat} {u0 u1 u2 : Value} (h8 : tmps.getD t undef = .pointer (some ⟨g, 0, none⟩)) (hb : Blk w g [u0, u1, u2]) :
    (results fn tmps).run Tryz.prog w = .ok (.agg #[u0, u1, u2]) w := by
  rw [Array.getD_eq_getD_getElem?] at h8
  have c0 := hb.c 0 _ rfl
  have c1 := hb.c 1 _ rfl
  have c2 := hb.c 2 _ rfl
  simp [results, h, loadVar, h8, c0, c1, c2, loadCells, loadCellsFrom, asAddr, Addr.add_lit, Result.andThen, go_sem]
set_option maxHeartbeats 1000000 in
theorem near_any (c : Ce) (lo hi : Int) (w : World) : Calls Tryz.prog 57 #[c.val, .int .i64 lo, .int .i64 hi] w fun e w' => e = .returned (.bool (nearB c lo hi)) ∧ Ext w w' := by
  have hb : ∀ b : Bool, (b = true ↔ nearP c lo hi) → b = nearB c lo hi := fun b h => by
    unfold nearB
    cases b <;> simp at h ⊢ <;> exact h
  have Hb := Lib.hid hb
  clear hb
  obtain ⟨x, y, z⟩ := c
  generalize nearB ⟨x, y, z⟩ lo hi = R at Hb ⊢
  go_enter Tryz.func57, Tryz.ntmps57
  go_wp2
  all_goals go_ret
  all_goals refine ⟨ret_b (Hb.out _ ?_), (Ext.refl _).alloc _⟩
  all_goals simp only [nearP]
  all_goals simp
  all_goals omega
set_option maxHeartbeats 1000000 in
theorem plus_any (a b : Ce) (w : World) (ha : nearP a (-1000000) 1000000) (hb : nearP b (-1000000) 1000000) : Calls Tryz.prog 103 #[a.val, b.val] w fun e w' => e = .returned (plusC a b).val ∧ Ext w w' := by
  obtain ⟨a1, a2, a3⟩ := a
  obtain ⟨b1, b2, b3⟩ := b
  obtain ⟨⟨p1, p2⟩, ⟨p3, p4⟩, p5, p6⟩ := ha
  obtain ⟨⟨q1, q2⟩, ⟨q3, q4⟩, q5, q6⟩ := hb
  simp only at p1 p2 p3 p4 p5 p6 q1 q2 q3 q4 q5 q6
  go_enter Tryz.func103, Tryz.ntmps103
  go_wp2
  exact bodyPost_ret (v := (plusC ⟨a1, a2, a3⟩ ⟨b1, b2, b3⟩).val) (by simp [results, Tryz.results103, go_sem, plusC]) rfl ⟨rfl, by simp (maxDischargeDepth := 8)⟩
/-- All numbers of a list are turns. -/
def turnsB (l : List Int) : Bool := l.all fun n => decide (0 ≤ n ∧ n < 24)
theorem turnsB_at {l : List Int} (h : ∀ k, k < l.length → 0 ≤ getI l k ∧ getI l k < 24) : true = turnsB l := by
  unfold turnsB
  rw [eq_comm, List.all_eq_true]
  intro x hx
  obtain ⟨k, hk, rfl⟩ := List.getElem_of_mem hx
  have := h k hk
  rw [getI_eq hk] at this
  simpa using this
theorem turnsB_not {l : List Int} {k : Nat} (hk : k < l.length) (h : ¬ (0 ≤ getI l k ∧ getI l k < 24)) : false = turnsB l := by
  unfold turnsB
  rw [eq_comm, List.all_eq_false]
  refine ⟨l[k], List.getElem_mem hk, ?_⟩
  rw [getI_eq hk] at h
  simpa using h
set_option maxHeartbeats 1000000 in
theorem isturn_any (A : Option Addr) (c : Nat) (l : List Int) (w : World) (hA : Ints w A l) (hl : l.length ≤ 1000) : Calls Tryz.prog 58 #[.slice A l.length c] w fun e w' => e = .returned (.bool (turnsB l)) ∧ Ext w w' := by
  have ha := fun k (hk : k < l.length) => hA.some_ (by omega : 0 < l.length)
  have hy := fun (h : ∀ k, k < l.length → 0 ≤ getI l k ∧ getI l k < 24) => turnsB_at h
  have hn := fun k (hk : k < l.length) (h : ¬ (0 ≤ getI l k ∧ getI l k < 24)) => turnsB_not hk h
  have Ha := Lib.hid ha
  have Hy := Lib.hid hy
  have Hn := Lib.hid hn
  clear ha hy hn hA
  generalize turnsB l = R at *
  generalize l.length = n at *
  go_enter Tryz.func58, Tryz.ntmps58
  go_wp2
  go_loopw [7] (fun i wr => ∃ k : Nat, k ≤ n ∧ i = .int .i64 k ∧ Ext w wr ∧ ∀ j, j < k → 0 ≤ getI l j ∧ getI l j < 24) (fun i _ => n - (intOf i).toNat)
  case atStart => exact ⟨0, by omega, rfl, Ext.refl _, fun j h => absurd h (by omega)⟩
  case round =>
    obtain ⟨k, hk, rfl, hex, hall⟩ := hrel
    have Hall := Lib.hid hall
    clear hall
    by_cases hlt : k < n
    · obtain ⟨ad, rfl, hc⟩ := Ha.out k hlt
      have c0 := fun w' he => hc k hlt w' (hex.trans he)
      have Hk := Lib.hid (Hn.out k hlt)
      clear hc Ha Hn
      have hki : (k : Int) < (n : Int) := by omega
      have hstep : 0 ≤ getI l k ∧ getI l k < 24 → ∀ j, j < k + 1 → 0 ≤ getI l j ∧ getI l j < 24 := fun h j hj => by
        by_cases e : j = k
        · rw [e]; exact h
        · exact Hall.out j (by omega)
      have Hst := Lib.hid hstep
      clear hstep Hall
      generalize getI l k = x at *
      by_cases h0 : x < 0
      · go_wp2
        go_ret
        exact ⟨ret_b (Hk.out (by omega)), hex⟩
      · by_cases h1 : 24 ≤ x
        · go_wp2
          go_ret
          exact ⟨ret_b (Hk.out (by omega)), hex⟩
        · have h2 : ¬ x ≥ 24 := by omega
          go_wp2
          go_roundw
          case rel => exact ⟨k + 1, by omega, by go_num, hex, Hst.out (by omega)⟩
          case measure => simp [intOf]; omega
    · obtain rfl : n = k := by omega
      go_wp2
      go_ret
      exact ⟨ret_b (Hy.out Hall.out), hex⟩
set_option maxHeartbeats 1000000 in
theorem rotx_any (c : Ce) (w : World) (hc : nearP c (-1000000) 1000000) : Calls Tryz.prog 128 #[c.val] w fun e w' => e = .returned (rotX c).val ∧ Ext w w' := by
  obtain ⟨a1, a2, a3⟩ := c
  obtain ⟨⟨p1, p2⟩, ⟨p3, p4⟩, p5, p6⟩ := hc
  simp only at p1 p2 p3 p4 p5 p6
  have h1 : IntKind.i64.wrap (-a3) = -a3 := by rw [IntKind.wrap_i64]; omega
  have h2 : IntKind.i64.wrap (0 - a3) = -a3 := by rw [IntKind.wrap_i64]; omega
  go_enter Tryz.func128, Tryz.ntmps128
  go_wp2
  exact bodyPost_ret (v := (rotX ⟨a1, a2, a3⟩).val) (by simp [results, Tryz.results128, go_sem, rotX]) rfl ⟨rfl, by simp (maxDischargeDepth := 8)⟩
set_option maxHeartbeats 1000000 in
theorem rot0_any (c : Ce) (w : World) : Calls Tryz.prog 129 #[c.val] w fun e w' => e = .returned c.val ∧ Ext w w' := by
  obtain ⟨a1, a2, a3⟩ := c
  go_enter Tryz.func129, Tryz.ntmps129
  go_wp2
  exact bodyPost_ret (v := (⟨a1, a2, a3⟩ : Ce).val) (by simp [results, Tryz.results129, go_sem]) rfl ⟨rfl, by simp (maxDischargeDepth := 8)⟩
set_option maxHeartbeats 1000000 in
theorem rot4_any (c : Ce) (w : World) : Calls Tryz.prog 132 #[c.val] w fun e w' => e = .returned (⟨c.z, c.x, c.y⟩ : Ce).val ∧ Ext w w' := by
  obtain ⟨a1, a2, a3⟩ := c
  go_enter Tryz.func132, Tryz.ntmps132
  go_wp2
  exact bodyPost_ret (v := (⟨a3, a1, a2⟩ : Ce).val) (by simp [results, Tryz.results132, go_sem]) rfl ⟨rfl, by simp (maxDischargeDepth := 8)⟩
set_option maxHeartbeats 1000000 in
theorem rot5_any (c : Ce) (w : World) (hc : nearP c (-1000000) 1000000) : Calls Tryz.prog 133 #[c.val] w fun e w' => e = .returned (⟨-c.z, -c.x, c.y⟩ : Ce).val ∧ Ext w w' := by
  obtain ⟨a1, a2, a3⟩ := c
  obtain ⟨⟨p1, p2⟩, ⟨p3, p4⟩, p5, p6⟩ := hc
  simp only at p1 p2 p3 p4 p5 p6
  have h1 : IntKind.i64.wrap (-a3) = -a3 := by rw [IntKind.wrap_i64]; omega
  have h2 : IntKind.i64.wrap (0 - a3) = -a3 := by rw [IntKind.wrap_i64]; omega
  have h3 : IntKind.i64.wrap (-a1) = -a1 := by rw [IntKind.wrap_i64]; omega
  have h4 : IntKind.i64.wrap (0 - a1) = -a1 := by rw [IntKind.wrap_i64]; omega
  go_enter Tryz.func133, Tryz.ntmps133
  go_wp2
  exact bodyPost_ret (v := (⟨-a3, -a1, a2⟩ : Ce).val) (by simp [results, Tryz.results133, go_sem]) rfl ⟨rfl, by simp (maxDischargeDepth := 8)⟩
end Go.Proofs.YtebkhdhhajjhfaaGreat.Lt
