/- The law HingeClosed: loops that close. -/
import Derived.Test.YteilglljigjefaaJQl
namespace Go.Proofs.Yteilglljigjefaa
open Go.RowKit
set_option maxRecDepth 100000 in
set_option maxHeartbeats 64000000 in
theorem closed_law_some (A : Option Addr) (c : Nat) (ps : List (List Sp)) (B : Option Addr) (d : Nat) (hs : List Hg) (a b : Sp) (O : Option Addr) (oc : Nat) (xs : List Int) (w : World) (hA : PnRow w A ps) (hB : HRow w B hs) (hg : ¬ greatP ps hs) (hl : linkP ps hs) (ha : spotB a) (hb : spotB b) (ho : Ints w O xs) (r : List Nat) (hc : clo a b hs pose0 = some r) :
    Calls Try.prog 11 #[.agg #[.slice A ps.length c, .slice B hs.length d], a.val, b.val, .slice O xs.length oc] w fun e w' => e = .returned (.bool true) ∧ Ext w w' := by
  have hL := lk_of hA hB hg
  have hgr := fun w' (he : Ext w w') => great_any A c ps B d hs w' (hA.ext he)
  rw [← greatB_no hg] at hgr
  have hck := fun w' (he : Ext w w') => (hL.ext he).check c d
  rw [← checkE_good hl] at hck
  have hq : askE ps hs a b = 0 := ask_good hl ⟨ha, hb⟩
  obtain ⟨hrl, hr36, hr0, hrx⟩ := clo_some hs pose0 r hc
  obtain ⟨rs, hrs⟩ : ∃ rs : List Int, rs = r.map fun (m : Nat) => (m : Int) := ⟨_, rfl⟩
  have hrsl : rs.length = hs.length := by rw [hrs, List.length_map]; exact hrl
  have hrsm : rs.map Int.toNat = r := by rw [hrs, List.map_map]; exact List.map_id'' (fun x => by simp) r
  have hrsx : ∀ j, j < rs.length → 0 ≤ getI rs j ∧ getI rs j < 36 := fun j hj => by
    rw [getI_eq hj]
    subst hrs
    rw [List.getElem_map]
    have := hr36 _ (List.getElem_mem (show j < r.length by simpa using hj))
    omega
  have hcl := fun w' (he : Ext w w') => (close_any A c ps B d hs a b w' (hL.ext he)).mono (R' := fun e w'' => ∃ X x, e = .returned (.tuple #[.slice X hs.length x, .int .i64 0]) ∧ Ints w'' X rs ∧ Ext w' w'') fun e w'' ⟨v, he, ho⟩ => by
    have e1 : cloE ps hs a b = 0 := by unfold cloE; rw [if_pos hq, hc]; rfl
    have e2 : cloL ps hs a b = rs := by unfold cloL; rw [if_pos hq, hc, hrs]; rfl
    rw [e1] at he
    rw [e2] at ho
    obtain ⟨X, x, rfl⟩ := ho.form
    rw [hrsl] at he
    exact ⟨X, x, he, OwnI.ints ho, ho.ext⟩
  have hga := fun w' (he : Ext w w') => gap_all A c ps B d hs a b w' (hL.ext he)
  have hz : gapE ps hs a b = .tuple #[.int .i64 (gapS (lastP hs) a b).x, .int .i64 (gapS (lastP hs) a b).y, .int .i64 (lastP hs).d, .int .i64 0] := if_pos hq
  rw [hz] at hga
  have hd := (psOk (lastP_ok hl)).bd.1
  have htw := fun w' (he : Ext w w') => twin_any A c ps B d hs w' (hL.ext he)
  have hgb1 := fun (w1 w' : World) (A1 : Option Addr) (c1 : Nat) (B1 : Option Addr) (d1 : Nat) (vs : List Value) (h : TwinOk w1 w' A1 c1 B1 d1 vs ps (HB hs rs hs.length)) => (show ∃ D, Calls Try.prog 35 #[.agg #[.slice A1 ps.length c1, .slice B1 hs.length d1], a.val, b.val] w' fun e w'' => e = .returned (.tuple #[.int .i64 0, .int .i64 0, .int .i64 D, .int .i64 0]) ∧ Ext w' w'' from by
    rw [← hrsl] at h
    obtain ⟨X, Y, D, hn, hg⟩ := HB_all hl ha hb hrsl hrsx h hL.np hL.hp
    rw [hrsm] at hn
    obtain ⟨rfl, rfl⟩ := hn.1 hr0
    exact ⟨D, hg⟩)
  have hgb2 := fun (hlen : xs.length = hs.length) (hx : ∀ j, j < xs.length → 0 ≤ getI xs j ∧ getI xs j < 36) (w1 w' : World) (A1 : Option Addr) (c1 : Nat) (B1 : Option Addr) (d1 : Nat) (vs : List Value) (h : TwinOk w1 w' A1 c1 B1 d1 vs ps (HB hs xs xs.length)) => (show ∃ X Y D, Calls Try.prog 35 #[.agg #[.slice A1 ps.length c1, .slice B1 hs.length d1], a.val, b.val] w' fun e w'' => e = .returned (.tuple #[.int .i64 X, .int .i64 Y, .int .i64 D, .int .i64 0]) ∧ Ext w' w'' from by
    obtain ⟨X, Y, D, _, hg⟩ := HB_all hl ha hb hlen hx h hL.np hL.hp
    exact ⟨X, Y, D, hg⟩)
  have hgb3 := fun (hlen : xs.length = hs.length) (hx : ∀ j, j < xs.length → 0 ≤ getI xs j ∧ getI xs j < 36) (m : Nat) (hm : m < hs.length) (heq : ∀ q, q < m → getI xs q = getI rs q) (hlt : getI xs m < getI rs m) (w1 w' : World) (A1 : Option Addr) (c1 : Nat) (B1 : Option Addr) (d1 : Nat) (vs : List Value) (h : TwinOk w1 w' A1 c1 B1 d1 vs ps (HB hs xs xs.length)) => (show ∃ X Y D, ((X != 0) = true ∨ X = 0 ∧ (Y != 0) = true) ∧ Calls Try.prog 35 #[.agg #[.slice A1 ps.length c1, .slice B1 hs.length d1], a.val, b.val] w' fun e w'' => e = .returned (.tuple #[.int .i64 X, .int .i64 Y, .int .i64 D, .int .i64 0]) ∧ Ext w' w'' from by
    obtain ⟨X, Y, D, hn, hg⟩ := HB_all hl ha hb hlen hx h hL.np hL.hp
    refine ⟨X, Y, D, hn.2 (hrx _ (by simpa using hlen) (HB_36 hx) ?_), hg⟩
    have hgx : ∀ q (h1 : q < (xs.map Int.toNat).length), (((xs.map Int.toNat)[q] : Nat) : Int) = getI xs q := fun q h1 => by
      have h2 := hx q (by simpa using h1)
      rw [List.getElem_map, ← getI_eq (by simpa using h1)]
      omega
    have hgr' : ∀ q (h1 : q < r.length), ((r[q] : Nat) : Int) = getI rs q := fun q h1 => by
      rw [getI_eq (by rw [hrsl, ← hrl]; exact h1)]
      subst hrs
      simp
    refine lex_at _ _ m (by simp; omega) (by omega) (fun q hq h3 h4 => ?_) ?_
    · have := heq q hq
      have := hgx q h3
      have := hgr' q h4
      omega
    · have := hgx m (by simp; omega)
      have := hgr' m (by omega)
      omega)
  have hst1 := fun (j : Nat) (hj : j < hs.length) (w1 w' : World) (A1 : Option Addr) (c1 : Nat) (B1 : Option Addr) (d1 : Nat) (vs : List Value) (h : TwinOk w1 w' A1 c1 B1 d1 vs ps (HB hs rs j)) => HB_step hj (by omega) (hrsx j (by omega)).1 h
  have hst2 := fun (j : Nat) (hj : j < hs.length) (hjx : j < xs.length) (h0 : 0 ≤ getI xs j) (w1 w' : World) (A1 : Option Addr) (c1 : Nat) (B1 : Option Addr) (d1 : Nat) (vs : List Value) (h : TwinOk w1 w' A1 c1 B1 d1 vs ps (HB hs xs j)) => HB_step hj hjx h0 h
  have hb01 := HB_zero hs rs
  have hb02 := HB_zero hs xs
  have hxa := fun (j : Nat) (hj : j < xs.length) => ho.some_ (by omega)
  have hsa0 := fun (w' : World) (X : Option Addr) (h : Ints w' X rs) (j : Nat) (hj : j < rs.length) => h.some_ (by omega)
  rw [hrsl] at hsa0
  have hnh := hl.nh
  have Hgr := Lib.hid hgr
  have Hck := Lib.hid hck
  have Hcl := Lib.hid hcl
  have Hga := Lib.hid hga
  have Htw := Lib.hid htw
  have Hgb1 := Lib.hid hgb1
  have Hgb2 := Lib.hid hgb2
  have Hgb3 := Lib.hid hgb3
  have Hst1 := Lib.hid hst1
  have Hst2 := Lib.hid hst2
  have Hb01 := Lib.hid hb01
  have Hb02 := Lib.hid hb02
  have Hxa := Lib.hid hxa
  have Hsa0 := Lib.hid hsa0
  clear hgr hck hcl hga htw hgb1 hgb2 hgb3 hst1 hst2 hb01 hb02 hxa hsa0 hL hA hB hg hl hz hq ho hc ha hb hrl hr36 hr0 hrx hrs hrsl hrsm hrsx
  generalize HB hs rs = F1 at *
  generalize HB hs xs = F2 at *
  generalize (gapS (lastP hs) a b).x = gx0 at *
  generalize (gapS (lastP hs) a b).y = gy0 at *
  generalize (lastP hs).d = gd0 at *
  generalize ps.length = np at *
  generalize hs.length = nh at *
  generalize xs.length = nx at *
  obtain ⟨ax, ay⟩ := a
  obtain ⟨bx, bY⟩ := b
  have kl : Blk (((w.alloc (.cells #[.slice A np c, .slice B nh d] 25)).alloc (.cells #[vint ax, vint ay] 27)).alloc (.cells #[vint bx, vint bY] 27)) w.heap.size [.slice A np c, .slice B nh d] := (Blk.new _ _).ext (((Ext.refl _).alloc _).alloc _)
  have ka : Blk (((w.alloc (.cells #[.slice A np c, .slice B nh d] 25)).alloc (.cells #[vint ax, vint ay] 27)).alloc (.cells #[vint bx, vint bY] 27)) (w.heap.size + 1) [vint ax, vint ay] := (Blk.new' (cs := #[vint ax, vint ay]) (by simp)).ext ((Ext.refl _).alloc _)
  have kb : Blk (((w.alloc (.cells #[.slice A np c, .slice B nh d] 25)).alloc (.cells #[vint ax, vint ay] 27)).alloc (.cells #[vint bx, vint bY] 27)) (w.heap.size + 1 + 1) [vint bx, vint bY] := (Blk.new' (cs := #[vint bx, vint bY]) (by simp))
  have l0 := kl.at_ 0 rfl
  have l1 := kl.at_ 1 rfl
  have a0 := ka.at_ 0 rfl
  have a1 := ka.at_ 1 rfl
  have b0 := kb.at_ 0 rfl
  have b1 := kb.at_ 1 rfl
  have hx0 : Ext w (((w.alloc (.cells #[.slice A np c, .slice B nh d] 25)).alloc (.cells #[vint ax, vint ay] 27)).alloc (.cells #[vint bx, vint bY] 27)) := ((((Ext.refl _).alloc _).alloc _).alloc _)
  have Hx0 := Lib.hid hx0
  have hb0 : Ext (((w.alloc (.cells #[.slice A np c, .slice B nh d] 25)).alloc (.cells #[vint ax, vint ay] 27)).alloc (.cells #[vint bx, vint bY] 27)) (((w.alloc (.cells #[.slice A np c, .slice B nh d] 25)).alloc (.cells #[vint ax, vint ay] 27)).alloc (.cells #[vint bx, vint bY] 27)) := Ext.refl _
  clear kl ka kb hx0
  go_enter Try.func11, Try.ntmps11
  go_wp2_with (first
    | (go_at_call 18; refine (Htw.out _ (Hx0.out.trans hb5)).mono ?_; rintro e w6 ⟨A1, c1, B1, d1, vs1, rfl, hT, hx6⟩; have HT := Lib.hid hT; have H5 := Lib.hid hb5; clear hb5 hT)
    | (go_at_call 35; have hq := hb4; clear hq; refine (Hga.out _ (Hx0.out.trans hb4)).mono ?_; rintro e w5 ⟨rfl, hx5⟩; have H45 := Lib.hid hx5; have hb5 := hb4.trans hx5; clear hb4 hx5)
    | (go_at_call 19; refine (Hcl.out _ (Hx0.out.trans hb3)).mono ?_; rintro e w4 ⟨X, x, rfl, hX, hx4⟩; have hb4 := hb3.trans hx4; have Hsa := Lib.hid (Hsa0.out _ _ hX); clear hb3 hx4 hX Hsa0)
    | (go_at_call 30; refine (Hck.out _ (Hx0.out.trans hb2)).mono ?_; rintro e w3 ⟨rfl, hx3⟩; have hb3 := hb2.trans hx3; clear hb2 hx3)
    | (go_at_call 17; refine (Hgr.out _ (Hx0.out.trans hb1)).mono ?_; rintro e w2 ⟨rfl, hx2⟩; have hb2 := hb1.trans hx2; clear hb1 hx2)
    | (go_at_call 46; refine (alive_any _).mono ?_; rintro e w1 ⟨rfl, hx1⟩; have hb1 := hb0.trans hx1; clear hb0 hx1))
  have hT0 : TwinOk w5 (w6.alloc (.cells #[.slice A1 np c1, .slice B1 nh d1] 25)) A1 c1 B1 d1 vs1 ps (F1 0) := by
    rw [Hb01.out]
    exact HT.out.later ((Ext.refl _).alloc _)
  have hW0 : Whole (w6.alloc (.cells #[.slice A1 np c1, .slice B1 nh d1] 25)) w6.heap.size #[.slice A1 np c1, .slice B1 nh d1] 25 := Whole.new rfl
  clear hx6
  go_loopw [101] (fun i wr => ∃ j : Nat, j ≤ nh ∧ i = .int .i64 j ∧ TwinOk w5 wr A1 c1 B1 d1 vs1 ps (F1 j) ∧ Whole wr w6.heap.size #[.slice A1 np c1, .slice B1 nh d1] 25) (fun i _ => nh - (intOf i).toNat)
  case atStart => exact ⟨0, by omega, rfl, hT0, hW0⟩
  case round =>
    clear hT0 hW0
    obtain ⟨j, hj, rfl, hTj, hWj⟩ := hrel
    have hx5r := hTj.pown.ext
    have h4r := H45.out.trans hx5r
    by_cases hlt : j < nh
    · have hji : (j : Int) < (nh : Int) := by omega
      obtain ⟨ads, rfl, hS⟩ := Hsa.out j hlt
      have c0 : ∀ w', Ext wr w' → _ := fun w' he => hS j hlt w' (h4r.trans he)
      obtain ⟨g, rfl, hg1, hg2, ⟨u, hcell⟩, hfro, hT'⟩ := Hst1.out j hlt _ _ _ _ _ _ _ hTj
      have hgne : w6.heap.size ≠ g := fun e => hTj.hown.ne_whole hWj (by decide) (by rw [e]; rfl)
      have hW' := hWj.farCell hgne (j * 5 + 4) (vint (getI rs j))
      have kb := hWj.blk
      have o0 := kb.at_ 0 rfl
      have o1 := kb.at_ 1 rfl
      have HR := Lib.hid (And.intro hT' hW')
      clear hTj hWj hx5r h4r hS hT' hW' kb hg1 hg2 hgne
      go_wp2
      go_roundw
      case rel => exact ⟨j + 1, by omega, by go_num, HR.out.1, HR.out.2⟩
      case measure => simp [intOf]; omega
    · obtain rfl : nh = j := by omega
      obtain ⟨wz, rfl⟩ : ∃ wz : World, wz = wr := ⟨_, rfl⟩
      obtain ⟨D1, hg1⟩ := Hgb1.out _ _ _ _ _ _ _ hTj
      have Hg1 := Lib.hid hg1
      have kb := hWj.blk
      have o0 := kb.at_ 0 rfl
      have o1 := kb.at_ 1 rfl
      have hb7 := H5.out.trans hx5r
      have H4z := Lib.hid h4r
      clear hTj hWj hx5r hg1 kb h4r
      by_cases hnx : nx = nh
      · have hnx' := hnx.symm
        subst hnx'
        go_wp2_with (first
          | (go_at_call 18; have hq := hb8; clear hq; refine (Htw.out _ (Hx0.out.trans hb8)).mono ?_; rintro e w9 ⟨A2, c2, B2, d2, vs2, rfl, hT, hx9⟩; have hb9 := hb8.trans hx9; have HT2 := Lib.hid hT; have H8 := Lib.hid hb8; clear hb8 hT)
          | (go_at_call 35; refine Hg1.out.mono ?_; rintro e w8 ⟨rfl, hx8⟩; have hb8 := hb7.trans hx8; have H48 := Lib.hid (H4z.out.trans hx8); clear hb7 hx8 o0 o1 H4z))
        clear Hgr Hck Hcl Hga Htw Hgb1 Hst1 Hb01 HT H5 H45 Hg1
        have hT0 : TwinOk w8 (w9.alloc (.cells #[.slice A2 np c2, .slice B2 nh d2] 25)) A2 c2 B2 d2 vs2 ps (F2 0) := by
          rw [Hb02.out]
          exact HT2.out.later ((Ext.refl _).alloc _)
        have hW0 : Whole (w9.alloc (.cells #[.slice A2 np c2, .slice B2 nh d2] 25)) w9.heap.size #[.slice A2 np c2, .slice B2 nh d2] 25 := Whole.new rfl
        have Hb9 := Lib.hid hb9
        clear hb9 hx9 l0 l1
        go_loopw [145] (fun i wr => ∃ j : Nat, j ≤ nh ∧ i = .int .i64 j ∧ (∀ m, m < j → 0 ≤ getI xs m ∧ getI xs m < 36) ∧ TwinOk w8 wr A2 c2 B2 d2 vs2 ps (F2 j) ∧ Whole wr w9.heap.size #[.slice A2 np c2, .slice B2 nh d2] 25) (fun i _ => nh - (intOf i).toNat)
        case atStart => exact ⟨0, by omega, rfl, fun m hm => by omega, hT0, hW0⟩
        case round =>
          clear hT0 hW0
          obtain ⟨j, hj, rfl, hrg, hTj, hWj⟩ := hrel
          have hx5r := hTj.pown.ext
          have hxw := (Hx0.out.trans H8.out).trans hx5r
          by_cases hlt : j < nh
          · have hji : (j : Int) < (nh : Int) := by omega
            obtain ⟨ado, rfl, hO⟩ := Hxa.out j hlt
            have c0 : ∀ w', Ext wr w' → _ := fun w' he => hO j hlt w' (hxw.trans he)
            by_cases hr : 0 ≤ getI xs j ∧ getI xs j < 36
            · obtain ⟨hr1, hr2⟩ := hr
              obtain ⟨g, rfl, hg1, hg2, ⟨u, hcell⟩, hfro, hT'⟩ := Hst2.out j hlt hlt hr1 _ _ _ _ _ _ _ hTj
              have hgne : w9.heap.size ≠ g := fun e => hTj.hown.ne_whole hWj (by decide) (by rw [e]; rfl)
              have hW' := hWj.farCell hgne (j * 5 + 4) (vint (getI xs j))
              have kb := hWj.blk
              have o0 := kb.at_ 0 rfl
              have o1 := kb.at_ 1 rfl
              have hrg' : ∀ m, m < j + 1 → 0 ≤ getI xs m ∧ getI xs m < 36 := fun m hm => by
                by_cases h : m < j
                · exact hrg m h
                · obtain rfl : m = j := by omega
                  exact ⟨hr1, hr2⟩
              have HR := Lib.hid (And.intro hrg' (And.intro hT' hW'))
              clear hrg hTj hWj hx5r hxw hO hT' hW' kb hrg' hg1 hg2 hgne
              go_wp2
              go_roundw
              case rel => exact ⟨j + 1, by omega, by go_num, HR.out.1, HR.out.2.1, HR.out.2.2⟩
              case measure => simp [intOf]; omega
            · rcases (by omega : getI xs j < 0 ∨ (¬ getI xs j < 0 ∧ 36 ≤ getI xs j)) with h7 | ⟨h7, h8⟩
              all_goals
                clear hr hrg hTj hWj hO
                go_wp2
                go_ret
                exact ⟨rfl, hxw⟩
          · obtain rfl : nh = j := by omega
            obtain ⟨wp, rfl⟩ : ∃ wp : World, wp = wr := ⟨_, rfl⟩
            have HR := Lib.hid (And.intro hrg (And.intro hTj hWj))
            clear hrg hTj hWj hx5r hxw
            go_wp2
            go_loopw [166, 24] (fun i v wr => ∃ m : Nat, m ≤ nh ∧ i = .int .i64 m ∧ v = .bool false ∧ (∀ q, q < m → getI xs q = getI rs q) ∧ Ext wp wr) (fun i _ _ => nh - (intOf i).toNat)
            case atStart => exact ⟨0, by omega, rfl, rfl, fun q hq => by omega, Ext.refl _⟩
            case round =>
              obtain ⟨m, hm, rfl, rfl, heq, hxq⟩ := hrel
              by_cases hml : m < nh
              · have hmi : (m : Int) < (nh : Int) := by omega
                have h8r := HR.out.2.1.pown.ext.trans hxq
                have hwr := (Hx0.out.trans H8.out).trans h8r
                have h4r := H48.out.trans h8r
                obtain ⟨ads, rfl, hS⟩ := Hsa.out m hml
                obtain ⟨ado, rfl, hO⟩ := Hxa.out m hml
                have c0 : ∀ w', Ext wr w' → _ := fun w' he => hO m hml w' (hwr.trans he)
                have c1 : ∀ w', Ext wr w' → _ := fun w' he => hS m hml w' (h4r.trans he)
                clear hS hO h8r hwr h4r
                by_cases hee : getI xs m = getI rs m
                · have hne : (getI xs m != getI rs m) = false := by simp [hee]
                  have heq' : ∀ q, q < m + 1 → getI xs q = getI rs q := fun q hq => by
                    by_cases h : q < m
                    · exact heq q h
                    · obtain rfl : q = m := by omega
                      exact hee
                  have Heq := Lib.hid heq'
                  clear heq heq' hee
                  go_wp2
                  refine wp_region_calm 9 (fun _ _ _ _ => True) (fun _ _ _ _ _ _ h => h) (by kernel_rfl) (by kernel_rfl) ?_
                  simp only [List.take_succ_cons, List.take_zero, List.drop_succ_cons, List.drop_zero]
                  refine calm_quiet calm_mono_final 9 (by kernel_rfl) ?_
                  simp only [List.take_succ_cons, List.take_zero, List.drop_succ_cons, List.drop_zero]
                  repeat (go_big_quiet_step (fail))
                  refine wpQuiet_nil ?_
                  refine calm_nil fun wb heb _ => ?_
                  clear c0 c1
                  go_wp2
                  go_roundw
                  case rel => exact ⟨m + 1, by omega, by go_num, rfl, Heq.out, hxq.trans heb⟩
                  case measure => simp [intOf]; omega
                · have hne : (getI xs m != getI rs m) = true := by simpa using hee
                  rcases (by omega : getI xs m < getI rs m ∨ getI rs m ≤ getI xs m) with hlt3 | hge3
                  · clear hee
                    go_wp2
                    refine wp_region_calm 9 (fun _ _ _ _ => True) (fun _ _ _ _ _ _ h => h) (by kernel_rfl) (by kernel_rfl) ?_
                    simp only [List.take_succ_cons, List.take_zero, List.drop_succ_cons, List.drop_zero]
                    refine calm_quiet calm_mono_final 9 (by kernel_rfl) ?_
                    simp only [List.take_succ_cons, List.take_zero, List.drop_succ_cons, List.drop_zero]
                    repeat (go_big_quiet_step (fail))
                    refine wpQuiet_nil ?_
                    refine calm_nil fun wb heb _ => ?_
                    have d0 : ∀ w', Ext wb w' → _ := fun w' he => c0 w' (heb.trans he)
                    have d1 : ∀ w', Ext wb w' → _ := fun w' he => c1 w' (heb.trans he)
                    clear c0 c1
                    go_wp2
                    refine wp_region_calm 13 (fun _ _ _ _ => True) (fun _ _ _ _ _ _ h => h) (by kernel_rfl) (by kernel_rfl) ?_
                    simp only [List.take_succ_cons, List.take_zero, List.drop_succ_cons, List.drop_zero]
                    refine calm_quiet calm_mono_final 13 (by kernel_rfl) ?_
                    simp only [List.take_succ_cons, List.take_zero, List.drop_succ_cons, List.drop_zero]
                    repeat (go_big_quiet_step (fail))
                    refine wpQuiet_nil ?_
                    refine calm_nil fun wc hec _ => ?_
                    clear d0 d1
                    obtain ⟨X2, Y2, D2, hXY, hg⟩ := Hgb3.out (by trivial) HR.out.1 m hml heq hlt3 _ _ _ _ _ _ _ (HR.out.2.1.later (hxq.trans (heb.trans hec)))
                    have Hg := Lib.hid hg
                    have kb := (HR.out.2.2.ext (hxq.trans (heb.trans hec))).blk
                    have o0 := kb.at_ 0 rfl
                    have o1 := kb.at_ 1 rfl
                    have hwq := (Hx0.out.trans H8.out).trans (HR.out.2.1.pown.ext.trans (hxq.trans (heb.trans hec)))
                    have p0 : ∀ w', Ext wc w' → _ := fun w' he => a0 w' ((H8.out.trans (HR.out.2.1.pown.ext.trans (hxq.trans (heb.trans hec)))).trans he)
                    have p1 : ∀ w', Ext wc w' → _ := fun w' he => a1 w' ((H8.out.trans (HR.out.2.1.pown.ext.trans (hxq.trans (heb.trans hec)))).trans he)
                    have p2 : ∀ w', Ext wc w' → _ := fun w' he => b0 w' ((H8.out.trans (HR.out.2.1.pown.ext.trans (hxq.trans (heb.trans hec)))).trans he)
                    have p3 : ∀ w', Ext wc w' → _ := fun w' he => b1 w' ((H8.out.trans (HR.out.2.1.pown.ext.trans (hxq.trans (heb.trans hec)))).trans he)
                    clear hg kb a0 a1 b0 b1
                    rcases hXY with h9 | ⟨rfl, h9⟩
                    all_goals
                      go_wp2_with (go_at_call 35; refine Hg.out.mono ?_; rintro e wf ⟨rfl, hxf⟩)
                      go_ret
                      exact ⟨rfl, hwq.trans hxf⟩
                  · clear hee
                    go_wp2
                    refine wp_region_calm 9 (fun _ _ _ _ => True) (fun _ _ _ _ _ _ h => h) (by kernel_rfl) (by kernel_rfl) ?_
                    simp only [List.take_succ_cons, List.take_zero, List.drop_succ_cons, List.drop_zero]
                    refine calm_quiet calm_mono_final 9 (by kernel_rfl) ?_
                    simp only [List.take_succ_cons, List.take_zero, List.drop_succ_cons, List.drop_zero]
                    repeat (go_big_quiet_step (fail))
                    refine wpQuiet_nil ?_
                    refine calm_nil fun wb heb _ => ?_
                    have d0 : ∀ w', Ext wb w' → _ := fun w' he => c0 w' (heb.trans he)
                    have d1 : ∀ w', Ext wb w' → _ := fun w' he => c1 w' (heb.trans he)
                    clear c0 c1
                    go_wp2
                    refine wp_region_calm 13 (fun _ _ _ _ => True) (fun _ _ _ _ _ _ h => h) (by kernel_rfl) (by kernel_rfl) ?_
                    simp only [List.take_succ_cons, List.take_zero, List.drop_succ_cons, List.drop_zero]
                    refine calm_quiet calm_mono_final 13 (by kernel_rfl) ?_
                    simp only [List.take_succ_cons, List.take_zero, List.drop_succ_cons, List.drop_zero]
                    repeat (go_big_quiet_step (fail))
                    refine wpQuiet_nil ?_
                    refine calm_nil fun wc hec _ => ?_
                    clear d0 d1
                    obtain ⟨X2, Y2, D2, hg⟩ := Hgb2.out (by trivial) HR.out.1 _ _ _ _ _ _ _ (HR.out.2.1.later (hxq.trans (heb.trans hec)))
                    have Hg := Lib.hid hg
                    have kb := (HR.out.2.2.ext (hxq.trans (heb.trans hec))).blk
                    have o0 := kb.at_ 0 rfl
                    have o1 := kb.at_ 1 rfl
                    have hwq := (Hx0.out.trans H8.out).trans (HR.out.2.1.pown.ext.trans (hxq.trans (heb.trans hec)))
                    have p0 : ∀ w', Ext wc w' → _ := fun w' he => a0 w' ((H8.out.trans (HR.out.2.1.pown.ext.trans (hxq.trans (heb.trans hec)))).trans he)
                    have p1 : ∀ w', Ext wc w' → _ := fun w' he => a1 w' ((H8.out.trans (HR.out.2.1.pown.ext.trans (hxq.trans (heb.trans hec)))).trans he)
                    have p2 : ∀ w', Ext wc w' → _ := fun w' he => b0 w' ((H8.out.trans (HR.out.2.1.pown.ext.trans (hxq.trans (heb.trans hec)))).trans he)
                    have p3 : ∀ w', Ext wc w' → _ := fun w' he => b1 w' ((H8.out.trans (HR.out.2.1.pown.ext.trans (hxq.trans (heb.trans hec)))).trans he)
                    clear hg kb a0 a1 b0 b1
                    go_wp2_with (go_at_call 35; refine Hg.out.mono ?_; rintro e wf ⟨rfl, hxf⟩)
                    go_ret
                    exact ⟨rfl, hwq.trans hxf⟩
              · obtain rfl : m = nh := by omega
                clear heq
                obtain ⟨X2, Y2, D2, hg⟩ := Hgb2.out (by trivial) HR.out.1 _ _ _ _ _ _ _ (HR.out.2.1.later (hxq))
                have Hg := Lib.hid hg
                have kb := (HR.out.2.2.ext (hxq)).blk
                have o0 := kb.at_ 0 rfl
                have o1 := kb.at_ 1 rfl
                have hwq := (Hx0.out.trans H8.out).trans (HR.out.2.1.pown.ext.trans (hxq))
                have p0 : ∀ w', Ext wr w' → _ := fun w' he => a0 w' ((H8.out.trans (HR.out.2.1.pown.ext.trans (hxq))).trans he)
                have p1 : ∀ w', Ext wr w' → _ := fun w' he => a1 w' ((H8.out.trans (HR.out.2.1.pown.ext.trans (hxq))).trans he)
                have p2 : ∀ w', Ext wr w' → _ := fun w' he => b0 w' ((H8.out.trans (HR.out.2.1.pown.ext.trans (hxq))).trans he)
                have p3 : ∀ w', Ext wr w' → _ := fun w' he => b1 w' ((H8.out.trans (HR.out.2.1.pown.ext.trans (hxq))).trans he)
                clear hg kb a0 a1 b0 b1
                go_wp2_with (go_at_call 35; refine Hg.out.mono ?_; rintro e wf ⟨rfl, hxf⟩)
                go_ret
                exact ⟨rfl, hwq.trans hxf⟩
      · have hn2 : ((nx : Int) != (nh : Int)) = true := by simp; omega
        clear hnx
        go_wp2_with (go_at_call 35; refine Hg1.out.mono ?_; rintro e w8 ⟨rfl, hx8⟩; have hb8 := hb7.trans hx8; clear hb7 hx8)
        go_ret
        exact ⟨rfl, Hx0.out.trans hb8⟩
theorem closed_law (A : Option Addr) (c : Nat) (ps : List (List Sp)) (B : Option Addr) (d : Nat) (hs : List Hg) (a b : Sp) (O : Option Addr) (oc : Nat) (xs : List Int) (w : World) (hA : PnRow w A ps) (hB : HRow w B hs) (ho : Ints w O xs) :
    Calls Try.prog 11 #[.agg #[.slice A ps.length c, .slice B hs.length d], a.val, b.val, .slice O xs.length oc] w fun e w' => e = .returned (.bool true) ∧ Ext w w' := by
  by_cases hg : greatP ps hs
  · exact closed_law_out A c ps B d hs a b O oc xs w hA hg
  · rcases ask_cases ps hs a b with ⟨h1, h2, h3, h4⟩ | ⟨h4, h5⟩
    · cases hc : clo a b hs pose0 with
      | none => exact closed_law_none A c ps B d hs a b O oc xs w hA hB hg h1 h2 h3 ho hc
      | some r => exact closed_law_some A c ps B d hs a b O oc xs w hA hB hg h1 h2 h3 ho r hc
    · by_cases hl : linkP ps hs
      · have h6 : askE ps hs a b = 2 := by
          rcases h4 with h | h
          · exact h
          · have := ask_far hl (fun h7 => h5 ⟨hl, h7⟩)
            exact this
        exact closed_law_ask A c ps B d hs a b O oc xs w hA hB hg hl h6
      · exact closed_law_bad A c ps B d hs a b O oc xs w hA hB hg hl
end Go.Proofs.Yteilglljigjefaa
