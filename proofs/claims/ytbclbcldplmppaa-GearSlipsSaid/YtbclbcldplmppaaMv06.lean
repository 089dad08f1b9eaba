/- solve: the loops over a row's two lines. -/
import Derived.Maps.OwnSet
import Derived.WalkMore
import Derived.BigRegion
import Derived.Lib.SliceRun
import Derived.Deep.Upon
import Derived.Test.YtbclbcldplmppaaMv05
namespace Go.Proofs.Ytbclbcldplmppaa
open Go.RowKit


set_option maxRecDepth 1000000 in
set_option maxHeartbeats 4000000 in
theorem loopL {u0 u1 u2 u3 u4 u6 u7 u8 u9 u11 u13 u16 u17 u18 u19 u20 u21 u22 u23 u24 u25 u26 u27 u28 u29 u30 u31 u32 u33 u34 u35 u36 u37 u38 u39 u40 u41 u42 u43 u44 u45 u46 u47 u48 u49 u50 u51 u52 u53 u54 u55 u56 u57 u58 u59 u60 u61 u62 u63 u64 u65 u66 u67 u68 u69 u70 u71 u72 u73 u74 u75 u76 u77 u78 u79 u80 u81 u82 u83 u84 u85 u86 u87 u88 u89 u90 u91 u92 u93 u94 u95 u96 u97 u98 u99 u100 u101 u104 u105 u106 u107 u108 u109 u110 u111 u112 u113 u114 u115 u116 u117 u118 u119 u120 u121 u122 u123 u124 u125 u126 u127 u128 u129 u130 u131 u132 u133 u134 u135 u136 u137 u138 u139 u140 u141 u142 u143 u144 u145 u146 u147 u148 u149 u150 u151 u152 u153 u154 u155 u156 u157 u158 u159 u160 u161 u162 u163 u164 u165 u166 u167 u168 : Value} {b w0 : World} {n m pn q g4 mb g5 bk gv cv x : Nat} {g h : Nat → Nat} {N M : Nat → Nat → Int} {F G : Nat → List Int} {piv : Nat → Int} {p cv0 d : Int} {ord : Value} {cnt : Nat} {D : DataW Unit} {Q : Exit → Act → World → Prop}
    (hn : n ≤ 8) (hm : m ≤ 16) (hqm : q < m) (hpm : pn < m) (hne : pn ≠ q)
    (hstep : ∀ j, j < n → ∀ w' : World, Calls Try.prog 95 #[.int .i64 p, .int .i64 (M x j), .int .i64 cv0, .int .i64 (piv j), .int .i64 d] w' fun e w'' => e = .returned (.int .i64 (N x j)) ∧ Ext w' w'')
    (hpiv : ∀ j, j < n → getI (F pn) j = piv j) (hbg : ∀ k, k < m → bk ≠ g k ∧ bk ≠ h k) (hsep : Sep g5 (.slice (some ⟨gv, 0, none⟩) m cv) m g h)
    (hmf : MF b w0 (.slice (some ⟨gv, 0, none⟩) m cv) n m m g h (fun i => if i = q then mixL N M n x 0 else F i) G) (hfr : Fr w0 g4 mb g5 (.slice (some ⟨gv, 0, none⟩) m cv) ord d cnt D) (hbx : Bx w0 bk [sl (g q) n, sl (h q) m])
    (hexit : ∀ (x16 x103 x104 x105 x106 x107 x108 x109 x110 x111 x112 x113 x114 x115 x116 x117 x118 x119 x120 x121 x122 x123 x124 x125 x126 x127 x128 x129 : Value) (w' : World), MF b w' (.slice (some ⟨gv, 0, none⟩) m cv) n m m g h (fun i => if i = q then mixL N M n x n else F i) G → Fr w' g4 mb g5 (.slice (some ⟨gv, 0, none⟩) m cv) ord d cnt D → Bx w' bk [sl (g q) n, sl (h q) m] → Q (.exit 8) ⟨(u0 :: u1 :: u2 :: u3 :: u4 :: (.pointer (some ⟨g5, 0, none⟩)) :: u6 :: u7 :: u8 :: u9 :: (.int .i64 (pn : Int)) :: u11 :: (.int .i64 p) :: u13 :: (.pointer (some ⟨bk, 0, none⟩)) :: (.int .i64 cv0) :: (x16) :: u17 :: u18 :: u19 :: u20 :: u21 :: u22 :: u23 :: u24 :: u25 :: u26 :: u27 :: u28 :: u29 :: u30 :: u31 :: u32 :: u33 :: u34 :: u35 :: u36 :: u37 :: u38 :: u39 :: u40 :: u41 :: u42 :: u43 :: u44 :: u45 :: u46 :: u47 :: u48 :: u49 :: u50 :: u51 :: u52 :: u53 :: u54 :: u55 :: u56 :: u57 :: u58 :: u59 :: u60 :: u61 :: u62 :: u63 :: u64 :: u65 :: u66 :: u67 :: u68 :: u69 :: u70 :: u71 :: u72 :: u73 :: u74 :: u75 :: u76 :: u77 :: u78 :: u79 :: u80 :: u81 :: u82 :: u83 :: u84 :: u85 :: u86 :: u87 :: u88 :: u89 :: u90 :: u91 :: u92 :: u93 :: u94 :: u95 :: u96 :: u97 :: u98 :: u99 :: u100 :: u101 :: (.int .i64 (n : Int)) :: (x103) :: (x104) :: (x105) :: (x106) :: (x107) :: (x108) :: (x109) :: (x110) :: (x111) :: (x112) :: (x113) :: (x114) :: (x115) :: (x116) :: (x117) :: (x118) :: (x119) :: (x120) :: (x121) :: (x122) :: (x123) :: (x124) :: (x125) :: (x126) :: (x127) :: (x128) :: (x129) :: u130 :: u131 :: u132 :: u133 :: u134 :: u135 :: u136 :: u137 :: u138 :: u139 :: u140 :: u141 :: u142 :: u143 :: u144 :: u145 :: u146 :: u147 :: u148 :: u149 :: u150 :: u151 :: u152 :: u153 :: u154 :: u155 :: u156 :: u157 :: u158 :: u159 :: u160 :: u161 :: u162 :: u163 :: u164 :: u165 :: u166 :: u167 :: u168 :: []).toArray, []⟩ w') :
    Code.wp Try.prog (Code.loop loop65_8) Q ⟨(u0 :: u1 :: u2 :: u3 :: u4 :: (.pointer (some ⟨g5, 0, none⟩)) :: u6 :: u7 :: u8 :: u9 :: (.int .i64 (pn : Int)) :: u11 :: (.int .i64 p) :: u13 :: (.pointer (some ⟨bk, 0, none⟩)) :: (.int .i64 cv0) :: u16 :: u17 :: u18 :: u19 :: u20 :: u21 :: u22 :: u23 :: u24 :: u25 :: u26 :: u27 :: u28 :: u29 :: u30 :: u31 :: u32 :: u33 :: u34 :: u35 :: u36 :: u37 :: u38 :: u39 :: u40 :: u41 :: u42 :: u43 :: u44 :: u45 :: u46 :: u47 :: u48 :: u49 :: u50 :: u51 :: u52 :: u53 :: u54 :: u55 :: u56 :: u57 :: u58 :: u59 :: u60 :: u61 :: u62 :: u63 :: u64 :: u65 :: u66 :: u67 :: u68 :: u69 :: u70 :: u71 :: u72 :: u73 :: u74 :: u75 :: u76 :: u77 :: u78 :: u79 :: u80 :: u81 :: u82 :: u83 :: u84 :: u85 :: u86 :: u87 :: u88 :: u89 :: u90 :: u91 :: u92 :: u93 :: u94 :: u95 :: u96 :: u97 :: u98 :: u99 :: u100 :: u101 :: (.int .i64 (n : Int)) :: (.int .i64 0) :: u104 :: u105 :: u106 :: u107 :: u108 :: u109 :: u110 :: u111 :: u112 :: u113 :: u114 :: u115 :: u116 :: u117 :: u118 :: u119 :: u120 :: u121 :: u122 :: u123 :: u124 :: u125 :: u126 :: u127 :: u128 :: u129 :: u130 :: u131 :: u132 :: u133 :: u134 :: u135 :: u136 :: u137 :: u138 :: u139 :: u140 :: u141 :: u142 :: u143 :: u144 :: u145 :: u146 :: u147 :: u148 :: u149 :: u150 :: u151 :: u152 :: u153 :: u154 :: u155 :: u156 :: u157 :: u158 :: u159 :: u160 :: u161 :: u162 :: u163 :: u164 :: u165 :: u166 :: u167 :: u168 :: []).toArray, []⟩ w0 := by
  have Hexit := Lib.hid hexit
  have Hstep := Lib.hid hstep
  have Hpiv := Lib.hid hpiv
  have Hbg := Lib.hid hbg
  have Hsep := Lib.hid hsep
  clear hexit hstep hpiv hbg hsep
  conv => arg 2; arg 1; whnf
  go_loopw [103] (fun i wr => ∃ j : Nat, j ≤ n ∧ i = .int .i64 j ∧ MF b wr (.slice (some ⟨gv, 0, none⟩) m cv) n m m g h (fun i => if i = q then mixL N M n x j else F i) G ∧ Fr wr g4 mb g5 (.slice (some ⟨gv, 0, none⟩) m cv) ord d cnt D ∧ Bx wr bk [sl (g q) n, sl (h q) m]) (fun i _ => n - (intOf i).toNat)
  case atStart => exact ⟨0, by omega, rfl, hmf, hfr, hbx⟩
  case round =>
    clear hmf hfr hbx
    obtain ⟨j, hj, rfl, hmf, hfr, hbx⟩ := hrel
    by_cases hjn : j < n
    · have cb : ∀ w', Ext wr w' → w'.cell? ⟨bk, 0, none⟩ = some (sl (g q) n) := fun w' he => he.cell (hbx.cell 0 (by simp))
      have c50 : ∀ w', Ext wr w' → w'.cell? ⟨g5, 0, none⟩ = some (.slice (some ⟨gv, 0, none⟩) m cv) := fun w' he => he.cell (hfr.b5.cell 0 (by simp))
      have c53 : ∀ w', Ext wr w' → w'.cell? ⟨g5, 3, none⟩ = some (.int .i64 d) := fun w' he => he.cell (hfr.b5.cell 3 (by simp))
      have cv0' : ∀ w', Ext wr w' → w'.cell? ⟨gv, pn * 2, none⟩ = some (sl (g pn) n) := fun w' he => he.cell (by
        rw [hmf.own.cell (j := pn * 2) (by rw [rowCells_len]; omega)]
        exact (rowCells_get n m m g h hpm).1)
      have hlq := hmf.gl q hqm
      rw [if_pos rfl] at hlq
      have hlp := hmf.gl pn hpm
      rw [if_neg hne] at hlp
      have cq : ∀ w', Ext wr w' → w'.cell? ⟨g q, j, none⟩ = some (vint (M x j)) := fun w' he => he.cell (by
        rw [hlq.1.cell (by rw [mixL_length]; exact hjn), getI_mixL hjn])
      have cp : ∀ w', Ext wr w' → w'.cell? ⟨g pn, j, none⟩ = some (vint (piv j)) := fun w' he => he.cell (by
        rw [hlp.1.cell (by rw [hlp.2]; exact hjn), Hpiv.out j hjn])
      have hfq : wr.frozen? ⟨g q, j, none⟩ = false := hlq.1.free (by rw [mixL_length]; unfold maxLen; omega) j
      have hqlt := hlq.1.lt
      have hji : (j : Int) < (n : Int) := by omega
      have hpi : (pn : Int) < (m : Int) := by omega
      have hst := Hstep.out j hjn
      have Hst := Lib.hid hst
      clear hst hlq hlp
      go_wp2
      refine wp_region_calm 22 (fun _ _ v _ => v = .int .i64 (N x j)) (fun _ _ _ _ _ _ h => h) (by kernel_rfl) (by kernel_rfl) ?_
      simp only [List.take_succ_cons, List.take_zero, List.drop_succ_cons, List.drop_zero]
      refine calm_quiet calm_mono_final 21 (by kernel_rfl) ?_
      simp only [List.take_succ_cons, List.take_zero, List.drop_succ_cons, List.drop_zero]
      repeat (go_big_quiet_step (fail))
      refine wpQuiet_nil ?_
      refine calm_call calm_mono_final 95 #[.int .i64 p, .int .i64 (M x j), .int .i64 cv0, .int .i64 (piv j), .int .i64 d] rfl (fun w => ?_) (fun w he _ => ?_) ?_
      · go_simp
      · exact (Hst.out w).mono fun e w'' ⟨he', hx⟩ => ⟨_, he', hx, rfl⟩
      intro v1 _ _ hv1
      have hv1' : v1 = .int .i64 (N x j) := hv1
      subst hv1'
      clear hv1
      simp only [Act.put, List.setIfInBounds_toArray, List.set_cons_succ, List.set_cons_zero]
      refine calm_nil fun w3 he3 hF => ?_
      clear hF
      have cq3 := cq w3 he3
      have hf3 : w3.frozen? ⟨g q, j, none⟩ = false := (he3.frozen hqlt).trans hfq
      have hmf3 := (hmf.later he3).storeL hqm (by omega) (by omega) j (N x j)
      rw [if_pos rfl] at hmf3
      have hfr3 := (hfr.later he3).other (p := ⟨g q, j, none⟩) (Hsep.out.g q hqm) (vint (N x j))
      have hbx3 := (hbx.later he3).other (p := ⟨g q, j, none⟩) (fun e => (Hbg.out q hqm).1 e.symm) (vint (N x j))
      clear cb c50 c53 cv0' cq cp hfq Hst
      go_wp2
      go_roundw
      case rel =>
        refine ⟨j + 1, by omega, by go_num, hmf3.congr (fun i _ => ?_) (fun _ _ => rfl), hfr3, hbx3⟩
        by_cases e : i = q
        · rw [if_pos e, if_pos e, mixL_set hjn]
        · rw [if_neg e, if_neg e, if_neg e]
      case measure => simp [intOf]; omega
    · obtain rfl : j = n := by omega
      have hx := Hexit.out
      go_wp2
      exact hx _ _ _ _ _ _ _ _ _ _ _ _ _ _ _ _ _ _ _ _ _ _ _ _ _ _ _ _ wr hmf hfr hbx

set_option maxRecDepth 1000000 in
set_option maxHeartbeats 4000000 in
theorem loopB {u0 u1 u2 u3 u4 u6 u7 u8 u9 u11 u13 u16 u17 u18 u19 u20 u21 u22 u23 u24 u25 u26 u27 u28 u29 u30 u31 u32 u33 u34 u35 u36 u37 u38 u39 u40 u41 u42 u43 u44 u45 u46 u47 u48 u49 u50 u51 u52 u53 u54 u55 u56 u57 u58 u59 u60 u61 u62 u63 u64 u65 u66 u67 u68 u69 u70 u71 u72 u73 u74 u75 u76 u77 u78 u79 u80 u81 u82 u83 u84 u85 u86 u87 u88 u89 u90 u91 u92 u93 u94 u95 u96 u97 u98 u99 u100 u101 u102 u103 u104 u105 u106 u107 u108 u109 u110 u111 u112 u113 u114 u115 u116 u117 u118 u119 u120 u121 u122 u123 u124 u125 u126 u127 u128 u129 u130 u131 u134 u135 u136 u137 u138 u139 u140 u141 u142 u143 u144 u145 u146 u147 u148 u149 u150 u151 u152 u153 u154 u155 u156 u157 u158 u159 u160 u161 u162 u163 u164 u165 u166 u167 u168 : Value} {b w0 : World} {n m pn q g4 mb g5 bk gv cv x : Nat} {g h : Nat → Nat} {N M : Nat → Nat → Int} {F G : Nat → List Int} {piv : Nat → Int} {p cv0 d : Int} {ord : Value} {cnt : Nat} {D : DataW Unit} {Q : Exit → Act → World → Prop}
    (hn : n ≤ 8) (hm : m ≤ 16) (hqm : q < m) (hpm : pn < m) (hne : pn ≠ q)
    (hstep : ∀ j, j < m → ∀ w' : World, Calls Try.prog 95 #[.int .i64 p, .int .i64 (M x (n + j)), .int .i64 cv0, .int .i64 (piv j), .int .i64 d] w' fun e w'' => e = .returned (.int .i64 (N x (n + j))) ∧ Ext w' w'')
    (hpiv : ∀ j, j < m → getI (F pn) j = piv j) (hbg : ∀ k, k < m → bk ≠ g k ∧ bk ≠ h k) (hsep : Sep g5 (.slice (some ⟨gv, 0, none⟩) m cv) m g h)
    (hmf : MF b w0 (.slice (some ⟨gv, 0, none⟩) m cv) n m m g h G (fun i => if i = q then mixB N M n m x 0 else F i)) (hfr : Fr w0 g4 mb g5 (.slice (some ⟨gv, 0, none⟩) m cv) ord d cnt D) (hbx : Bx w0 bk [sl (g q) n, sl (h q) m])
    (hexit : ∀ (x17 x133 x134 x135 x136 x137 x138 x139 x140 x141 x142 x143 x144 x145 x146 x147 x148 x149 x150 x151 x152 x153 x154 x155 x156 x157 x158 x159 : Value) (w' : World), MF b w' (.slice (some ⟨gv, 0, none⟩) m cv) n m m g h G (fun i => if i = q then mixB N M n m x m else F i) → Fr w' g4 mb g5 (.slice (some ⟨gv, 0, none⟩) m cv) ord d cnt D → Bx w' bk [sl (g q) n, sl (h q) m] → Q (.exit 10) ⟨(u0 :: u1 :: u2 :: u3 :: u4 :: (.pointer (some ⟨g5, 0, none⟩)) :: u6 :: u7 :: u8 :: u9 :: (.int .i64 (pn : Int)) :: u11 :: (.int .i64 p) :: u13 :: (.pointer (some ⟨bk, 0, none⟩)) :: (.int .i64 cv0) :: u16 :: (x17) :: u18 :: u19 :: u20 :: u21 :: u22 :: u23 :: u24 :: u25 :: u26 :: u27 :: u28 :: u29 :: u30 :: u31 :: u32 :: u33 :: u34 :: u35 :: u36 :: u37 :: u38 :: u39 :: u40 :: u41 :: u42 :: u43 :: u44 :: u45 :: u46 :: u47 :: u48 :: u49 :: u50 :: u51 :: u52 :: u53 :: u54 :: u55 :: u56 :: u57 :: u58 :: u59 :: u60 :: u61 :: u62 :: u63 :: u64 :: u65 :: u66 :: u67 :: u68 :: u69 :: u70 :: u71 :: u72 :: u73 :: u74 :: u75 :: u76 :: u77 :: u78 :: u79 :: u80 :: u81 :: u82 :: u83 :: u84 :: u85 :: u86 :: u87 :: u88 :: u89 :: u90 :: u91 :: u92 :: u93 :: u94 :: u95 :: u96 :: u97 :: u98 :: u99 :: u100 :: u101 :: u102 :: u103 :: u104 :: u105 :: u106 :: u107 :: u108 :: u109 :: u110 :: u111 :: u112 :: u113 :: u114 :: u115 :: u116 :: u117 :: u118 :: u119 :: u120 :: u121 :: u122 :: u123 :: u124 :: u125 :: u126 :: u127 :: u128 :: u129 :: u130 :: u131 :: (.int .i64 (m : Int)) :: (x133) :: (x134) :: (x135) :: (x136) :: (x137) :: (x138) :: (x139) :: (x140) :: (x141) :: (x142) :: (x143) :: (x144) :: (x145) :: (x146) :: (x147) :: (x148) :: (x149) :: (x150) :: (x151) :: (x152) :: (x153) :: (x154) :: (x155) :: (x156) :: (x157) :: (x158) :: (x159) :: u160 :: u161 :: u162 :: u163 :: u164 :: u165 :: u166 :: u167 :: u168 :: []).toArray, []⟩ w') :
    Code.wp Try.prog (Code.loop loop65_10) Q ⟨(u0 :: u1 :: u2 :: u3 :: u4 :: (.pointer (some ⟨g5, 0, none⟩)) :: u6 :: u7 :: u8 :: u9 :: (.int .i64 (pn : Int)) :: u11 :: (.int .i64 p) :: u13 :: (.pointer (some ⟨bk, 0, none⟩)) :: (.int .i64 cv0) :: u16 :: u17 :: u18 :: u19 :: u20 :: u21 :: u22 :: u23 :: u24 :: u25 :: u26 :: u27 :: u28 :: u29 :: u30 :: u31 :: u32 :: u33 :: u34 :: u35 :: u36 :: u37 :: u38 :: u39 :: u40 :: u41 :: u42 :: u43 :: u44 :: u45 :: u46 :: u47 :: u48 :: u49 :: u50 :: u51 :: u52 :: u53 :: u54 :: u55 :: u56 :: u57 :: u58 :: u59 :: u60 :: u61 :: u62 :: u63 :: u64 :: u65 :: u66 :: u67 :: u68 :: u69 :: u70 :: u71 :: u72 :: u73 :: u74 :: u75 :: u76 :: u77 :: u78 :: u79 :: u80 :: u81 :: u82 :: u83 :: u84 :: u85 :: u86 :: u87 :: u88 :: u89 :: u90 :: u91 :: u92 :: u93 :: u94 :: u95 :: u96 :: u97 :: u98 :: u99 :: u100 :: u101 :: u102 :: u103 :: u104 :: u105 :: u106 :: u107 :: u108 :: u109 :: u110 :: u111 :: u112 :: u113 :: u114 :: u115 :: u116 :: u117 :: u118 :: u119 :: u120 :: u121 :: u122 :: u123 :: u124 :: u125 :: u126 :: u127 :: u128 :: u129 :: u130 :: u131 :: (.int .i64 (m : Int)) :: (.int .i64 0) :: u134 :: u135 :: u136 :: u137 :: u138 :: u139 :: u140 :: u141 :: u142 :: u143 :: u144 :: u145 :: u146 :: u147 :: u148 :: u149 :: u150 :: u151 :: u152 :: u153 :: u154 :: u155 :: u156 :: u157 :: u158 :: u159 :: u160 :: u161 :: u162 :: u163 :: u164 :: u165 :: u166 :: u167 :: u168 :: []).toArray, []⟩ w0 := by
  have Hexit := Lib.hid hexit
  have Hstep := Lib.hid hstep
  have Hpiv := Lib.hid hpiv
  have Hbg := Lib.hid hbg
  have Hsep := Lib.hid hsep
  clear hexit hstep hpiv hbg hsep
  conv => arg 2; arg 1; whnf
  go_loopw [133] (fun i wr => ∃ j : Nat, j ≤ m ∧ i = .int .i64 j ∧ MF b wr (.slice (some ⟨gv, 0, none⟩) m cv) n m m g h G (fun i => if i = q then mixB N M n m x j else F i) ∧ Fr wr g4 mb g5 (.slice (some ⟨gv, 0, none⟩) m cv) ord d cnt D ∧ Bx wr bk [sl (g q) n, sl (h q) m]) (fun i _ => m - (intOf i).toNat)
  case atStart => exact ⟨0, by omega, rfl, hmf, hfr, hbx⟩
  case round =>
    clear hmf hfr hbx
    obtain ⟨j, hj, rfl, hmf, hfr, hbx⟩ := hrel
    by_cases hjn : j < m
    · have cb : ∀ w', Ext wr w' → w'.cell? ⟨bk, 1, none⟩ = some (sl (h q) m) := fun w' he => he.cell (hbx.cell 1 (by simp))
      have c50 : ∀ w', Ext wr w' → w'.cell? ⟨g5, 0, none⟩ = some (.slice (some ⟨gv, 0, none⟩) m cv) := fun w' he => he.cell (hfr.b5.cell 0 (by simp))
      have c53 : ∀ w', Ext wr w' → w'.cell? ⟨g5, 3, none⟩ = some (.int .i64 d) := fun w' he => he.cell (hfr.b5.cell 3 (by simp))
      have cv0' : ∀ w', Ext wr w' → w'.cell? ⟨gv, pn * 2 + 1, none⟩ = some (sl (h pn) m) := fun w' he => he.cell (by
        rw [hmf.own.cell (j := pn * 2 + 1) (by rw [rowCells_len]; omega)]
        exact (rowCells_get n m m g h hpm).2)
      have hlq := hmf.hb q hqm
      rw [if_pos rfl] at hlq
      have hlp := hmf.hb pn hpm
      rw [if_neg hne] at hlp
      have cq : ∀ w', Ext wr w' → w'.cell? ⟨h q, j, none⟩ = some (vint (M x (n + j))) := fun w' he => he.cell (by
        rw [hlq.1.cell (by rw [mixB_length]; exact hjn), getI_mixB hjn])
      have cp : ∀ w', Ext wr w' → w'.cell? ⟨h pn, j, none⟩ = some (vint (piv j)) := fun w' he => he.cell (by
        rw [hlp.1.cell (by rw [hlp.2]; exact hjn), Hpiv.out j hjn])
      have hfq : wr.frozen? ⟨h q, j, none⟩ = false := hlq.1.free (by rw [mixB_length]; unfold maxLen; omega) j
      have hqlt := hlq.1.lt
      have hji : (j : Int) < (m : Int) := by omega
      have hpi : (pn : Int) < (m : Int) := by omega
      have hst := Hstep.out j hjn
      have Hst := Lib.hid hst
      clear hst hlq hlp
      go_wp2
      refine wp_region_calm 22 (fun _ _ v _ => v = .int .i64 (N x (n + j))) (fun _ _ _ _ _ _ h => h) (by kernel_rfl) (by kernel_rfl) ?_
      simp only [List.take_succ_cons, List.take_zero, List.drop_succ_cons, List.drop_zero]
      refine calm_quiet calm_mono_final 21 (by kernel_rfl) ?_
      simp only [List.take_succ_cons, List.take_zero, List.drop_succ_cons, List.drop_zero]
      repeat (go_big_quiet_step (fail))
      refine wpQuiet_nil ?_
      refine calm_call calm_mono_final 95 #[.int .i64 p, .int .i64 (M x (n + j)), .int .i64 cv0, .int .i64 (piv j), .int .i64 d] rfl (fun w => ?_) (fun w he _ => ?_) ?_
      · go_simp
      · exact (Hst.out w).mono fun e w'' ⟨he', hx⟩ => ⟨_, he', hx, rfl⟩
      intro v1 _ _ hv1
      have hv1' : v1 = .int .i64 (N x (n + j)) := hv1
      subst hv1'
      clear hv1
      simp only [Act.put, List.setIfInBounds_toArray, List.set_cons_succ, List.set_cons_zero]
      refine calm_nil fun w3 he3 hF => ?_
      clear hF
      have cq3 := cq w3 he3
      have hf3 : w3.frozen? ⟨h q, j, none⟩ = false := (he3.frozen hqlt).trans hfq
      have hmf3 := (hmf.later he3).storeB hqm (by omega) (by omega) j (N x (n + j))
      rw [if_pos rfl] at hmf3
      have hfr3 := (hfr.later he3).other (p := ⟨h q, j, none⟩) (Hsep.out.h q hqm) (vint (N x (n + j)))
      have hbx3 := (hbx.later he3).other (p := ⟨h q, j, none⟩) (fun e => (Hbg.out q hqm).2 e.symm) (vint (N x (n + j)))
      clear cb c50 c53 cv0' cq cp hfq Hst
      go_wp2
      go_roundw
      case rel =>
        refine ⟨j + 1, by omega, by go_num, hmf3.congr (fun _ _ => rfl) (fun i _ => ?_), hfr3, hbx3⟩
        by_cases e : i = q
        · rw [if_pos e, if_pos e, mixB_set hjn]
        · rw [if_neg e, if_neg e, if_neg e]
      case measure => simp [intOf]; omega
    · obtain rfl : j = m := by omega
      have hx := Hexit.out
      go_wp2
      exact hx _ _ _ _ _ _ _ _ _ _ _ _ _ _ _ _ _ _ _ _ _ _ _ _ _ _ _ _ wr hmf hfr hbx
end Go.Proofs.Ytbclbcldplmppaa

/- solve: the loop over the rows. -/
namespace Go.Proofs.Ytbclbcldplmppaa
open Go.RowKit

set_option maxRecDepth 1000000 in
set_option maxHeartbeats 8000000 in
theorem loopR {u0 u1 u2 u3 u4 u6 u7 u8 u11 u13 u14 u15 u16 u17 u18 u19 u20 u21 u22 u23 u24 u25 u26 u27 u28 u29 u30 u31 u32 u33 u34 u35 u36 u37 u38 u39 u40 u41 u42 u43 u44 u45 u46 u47 u48 u49 u50 u51 u52 u53 u54 u55 u56 u57 u58 u59 u60 u61 u62 u63 u64 u65 u66 u67 u68 u69 u70 u71 u72 u73 u74 u75 u76 u77 u78 u79 u80 u81 u82 u83 u84 u85 u89 u90 u91 u92 u93 u94 u95 u96 u97 u98 u99 u100 u101 u102 u103 u104 u105 u106 u107 u108 u109 u110 u111 u112 u113 u114 u115 u116 u117 u118 u119 u120 u121 u122 u123 u124 u125 u126 u127 u128 u129 u130 u131 u132 u133 u134 u135 u136 u137 u138 u139 u140 u141 u142 u143 u144 u145 u146 u147 u148 u149 u150 u151 u152 u153 u154 u155 u156 u157 u158 u159 u160 u161 u162 u163 u164 u165 u166 u167 u168 : Value} {b w0 : World} {n m pn cc g4 mb g5 gv cv i0 : Nat} {g h σ : Nat → Nat} {N M : Nat → Nat → Int} {p d : Int} {ord : Value} {cnt : Nat} {D : DataW Unit} {Q : Exit → Act → World → Prop}
    (hn : n ≤ 8) (hm : m ≤ 16) (hpm : pn < m) (hcn : cc < n)
    (hstep : ∀ x, x < m → x ≠ i0 → ∀ j, ∀ w' : World, Calls Try.prog 95 #[.int .i64 p, .int .i64 (M x j), .int .i64 (M x cc), .int .i64 (M i0 j), .int .i64 d] w' fun e w'' => e = .returned (.int .i64 (N x j)) ∧ Ext w' w'')
    (hN0 : ∀ j, N i0 j = M i0 j) (hlt : ∀ i, i < m → σ i < m) (hpn : σ pn = i0) (hne : ∀ i, i < m → i ≠ pn → σ i ≠ i0) (hsep : Sep g5 (.slice (some ⟨gv, 0, none⟩) m cv) m g h)
    (hmf : MF b w0 (.slice (some ⟨gv, 0, none⟩) m cv) n m m g h (fun i => if i < 0 then lineOf N n (σ i) else lineOf M n (σ i)) (fun i => if i < 0 then byOf N n m (σ i) else byOf M n m (σ i))) (hfr : Fr w0 g4 mb g5 (.slice (some ⟨gv, 0, none⟩) m cv) ord d cnt D)
    (hexit : ∀ (x13 x14 x15 x16 x17 x88 x89 x90 x91 x92 x93 x94 x95 x96 x97 x98 x99 x100 x101 x102 x103 x104 x105 x106 x107 x108 x109 x110 x111 x112 x113 x114 x115 x116 x117 x118 x119 x120 x121 x122 x123 x124 x125 x126 x127 x128 x129 x130 x131 x132 x133 x134 x135 x136 x137 x138 x139 x140 x141 x142 x143 x144 x145 x146 x147 x148 x149 x150 x151 x152 x153 x154 x155 x156 x157 x158 x159 x160 : Value) (w' : World), MF b w' (.slice (some ⟨gv, 0, none⟩) m cv) n m m g h (fun i => if i < m then lineOf N n (σ i) else lineOf M n (σ i)) (fun i => if i < m then byOf N n m (σ i) else byOf M n m (σ i)) → Fr w' g4 mb g5 (.slice (some ⟨gv, 0, none⟩) m cv) ord d cnt D → Q (.exit 6) ⟨(u0 :: u1 :: u2 :: u3 :: u4 :: (.pointer (some ⟨g5, 0, none⟩)) :: u6 :: u7 :: u8 :: (.int .i64 (cc : Int)) :: (.int .i64 (pn : Int)) :: u11 :: (.int .i64 p) :: (x13) :: (x14) :: (x15) :: (x16) :: (x17) :: u18 :: u19 :: u20 :: u21 :: u22 :: u23 :: u24 :: u25 :: u26 :: u27 :: u28 :: u29 :: u30 :: u31 :: u32 :: u33 :: u34 :: u35 :: u36 :: u37 :: u38 :: u39 :: u40 :: u41 :: u42 :: u43 :: u44 :: u45 :: u46 :: u47 :: u48 :: u49 :: u50 :: u51 :: u52 :: u53 :: u54 :: u55 :: u56 :: u57 :: u58 :: u59 :: u60 :: u61 :: u62 :: u63 :: u64 :: u65 :: u66 :: u67 :: u68 :: u69 :: u70 :: u71 :: u72 :: u73 :: u74 :: u75 :: u76 :: u77 :: u78 :: u79 :: u80 :: u81 :: u82 :: u83 :: u84 :: u85 :: (.slice (some ⟨gv, 0, none⟩) m cv) :: (.int .i64 (m : Int)) :: (x88) :: (x89) :: (x90) :: (x91) :: (x92) :: (x93) :: (x94) :: (x95) :: (x96) :: (x97) :: (x98) :: (x99) :: (x100) :: (x101) :: (x102) :: (x103) :: (x104) :: (x105) :: (x106) :: (x107) :: (x108) :: (x109) :: (x110) :: (x111) :: (x112) :: (x113) :: (x114) :: (x115) :: (x116) :: (x117) :: (x118) :: (x119) :: (x120) :: (x121) :: (x122) :: (x123) :: (x124) :: (x125) :: (x126) :: (x127) :: (x128) :: (x129) :: (x130) :: (x131) :: (x132) :: (x133) :: (x134) :: (x135) :: (x136) :: (x137) :: (x138) :: (x139) :: (x140) :: (x141) :: (x142) :: (x143) :: (x144) :: (x145) :: (x146) :: (x147) :: (x148) :: (x149) :: (x150) :: (x151) :: (x152) :: (x153) :: (x154) :: (x155) :: (x156) :: (x157) :: (x158) :: (x159) :: (x160) :: u161 :: u162 :: u163 :: u164 :: u165 :: u166 :: u167 :: u168 :: []).toArray, []⟩ w') :
    Code.wp Try.prog (Code.loop loop65_6) Q ⟨(u0 :: u1 :: u2 :: u3 :: u4 :: (.pointer (some ⟨g5, 0, none⟩)) :: u6 :: u7 :: u8 :: (.int .i64 (cc : Int)) :: (.int .i64 (pn : Int)) :: u11 :: (.int .i64 p) :: u13 :: u14 :: u15 :: u16 :: u17 :: u18 :: u19 :: u20 :: u21 :: u22 :: u23 :: u24 :: u25 :: u26 :: u27 :: u28 :: u29 :: u30 :: u31 :: u32 :: u33 :: u34 :: u35 :: u36 :: u37 :: u38 :: u39 :: u40 :: u41 :: u42 :: u43 :: u44 :: u45 :: u46 :: u47 :: u48 :: u49 :: u50 :: u51 :: u52 :: u53 :: u54 :: u55 :: u56 :: u57 :: u58 :: u59 :: u60 :: u61 :: u62 :: u63 :: u64 :: u65 :: u66 :: u67 :: u68 :: u69 :: u70 :: u71 :: u72 :: u73 :: u74 :: u75 :: u76 :: u77 :: u78 :: u79 :: u80 :: u81 :: u82 :: u83 :: u84 :: u85 :: (.slice (some ⟨gv, 0, none⟩) m cv) :: (.int .i64 (m : Int)) :: (.int .i64 0) :: u89 :: u90 :: u91 :: u92 :: u93 :: u94 :: u95 :: u96 :: u97 :: u98 :: u99 :: u100 :: u101 :: u102 :: u103 :: u104 :: u105 :: u106 :: u107 :: u108 :: u109 :: u110 :: u111 :: u112 :: u113 :: u114 :: u115 :: u116 :: u117 :: u118 :: u119 :: u120 :: u121 :: u122 :: u123 :: u124 :: u125 :: u126 :: u127 :: u128 :: u129 :: u130 :: u131 :: u132 :: u133 :: u134 :: u135 :: u136 :: u137 :: u138 :: u139 :: u140 :: u141 :: u142 :: u143 :: u144 :: u145 :: u146 :: u147 :: u148 :: u149 :: u150 :: u151 :: u152 :: u153 :: u154 :: u155 :: u156 :: u157 :: u158 :: u159 :: u160 :: u161 :: u162 :: u163 :: u164 :: u165 :: u166 :: u167 :: u168 :: []).toArray, []⟩ w0 := by
  have Hexit := Lib.hid hexit
  have Hstep := Lib.hid hstep
  have HN0 := Lib.hid hN0
  have Hlt := Lib.hid hlt
  have Hpn := Lib.hid hpn
  have Hne := Lib.hid hne
  have Hsep := Lib.hid hsep
  clear hexit hstep hN0 hlt hpn hne hsep
  conv => arg 2; arg 1; whnf
  go_loopw [88] (fun i wr => ∃ q : Nat, q ≤ m ∧ i = .int .i64 q ∧ MF b wr (.slice (some ⟨gv, 0, none⟩) m cv) n m m g h (fun i => if i < q then lineOf N n (σ i) else lineOf M n (σ i)) (fun i => if i < q then byOf N n m (σ i) else byOf M n m (σ i)) ∧ Fr wr g4 mb g5 (.slice (some ⟨gv, 0, none⟩) m cv) ord d cnt D) (fun i _ => m - (intOf i).toNat)
  case atStart => exact ⟨0, by omega, rfl, hmf, hfr⟩
  case round =>
    clear hmf hfr
    obtain ⟨wq, rfl⟩ : ∃ wq : World, wq = wr := ⟨_, rfl⟩
    obtain ⟨q, hq, rfl, hmf, hfr⟩ := hrel
    by_cases hqm : q < m
    · have r0 : wq.cell? ⟨gv, q * 2, none⟩ = some (sl (g q) n) := by
        rw [hmf.own.cell (j := q * 2) (by rw [rowCells_len]; omega)]
        exact (rowCells_get n m m g h hqm).1
      have r1 : wq.cell? ⟨gv, q * 2 + 1, none⟩ = some (sl (h q) m) := by
        rw [hmf.own.cell (j := q * 2 + 1) (by rw [rowCells_len]; omega)]
        exact (rowCells_get n m m g h hqm).2
      have c50 : wq.cell? ⟨g5, 0, none⟩ = some (.slice (some ⟨gv, 0, none⟩) m cv) := hfr.b5.cell 0 (by simp)
      have hqi : (q : Int) < (m : Int) := by omega
      by_cases e : q = pn
      · have hb : ((q : Int) == (pn : Int)) = true := by simp; omega
        have E := Lib.hid e
        clear e
        go_wp2
        go_roundw
        case rel =>
          have e := E.out
          refine ⟨q + 1, by omega, by go_num, (hmf.congr (fun i hi => ?_) (fun i hi => ?_)).later (by simp), hfr.later (by simp)⟩
          · by_cases e1 : i < q
            · rw [if_pos e1, if_pos (by omega)]
            · by_cases e2 : i = q
              · rw [if_neg e1, if_pos (by omega), e2, e, Hpn.out]
                exact List.map_congr_left fun j _ => (HN0.out j).symm
              · rw [if_neg e1, if_neg (by omega)]
          · by_cases e1 : i < q
            · rw [if_pos e1, if_pos (by omega)]
            · by_cases e2 : i = q
              · rw [if_neg e1, if_pos (by omega), e2, e, Hpn.out]
                exact List.map_congr_left fun j _ => (HN0.out _).symm
              · rw [if_neg e1, if_neg (by omega)]
        case measure => simp [intOf]; omega
      · have hb : ((q : Int) == (pn : Int)) = false := by simp; omega
        have hmf1 := hmf.later (w' := wq.alloc (.cells #[sl (g q) n, sl (h q) m] 117)) ((Ext.refl _).alloc _)
        have hfr1 := hfr.later (w' := wq.alloc (.cells #[sl (g q) n, sl (h q) m] 117)) ((Ext.refl _).alloc _)
        have hbx1 : Bx (wq.alloc (.cells #[sl (g q) n, sl (h q) m] 117)) wq.heap.size [sl (g q) n, sl (h q) m] := Bx.of_heap (heap_alloc_new _ _)
        have hx0 : ∀ w', Ext (wq.alloc (.cells #[sl (g q) n, sl (h q) m] 117)) w' → w'.cell? ⟨wq.heap.size, 0, none⟩ = some (sl (g q) n) := fun w' he => he.cell (hbx1.cell 0 (by simp))
        have hbg : ∀ k, k < m → wq.heap.size ≠ g k ∧ wq.heap.size ≠ h k := fun k hk => by
          have h1 := (hmf.gl k hk).1.lt
          have h2 := (hmf.hb k hk).1.lt
          omega
        have hlq := (hmf1.gl q hqm).1
        rw [if_neg (Nat.lt_irrefl q)] at hlq
        have hat := at_any (some ⟨g q, 0, none⟩) n cc (lineOf M n (σ q)) _ hlq.ints (by rw [lineOf_length]; exact hcn)
        rw [lineOf_length, getI_lineOf hcn] at hat
        have Hat := Lib.hid hat
        have E := Lib.hid e
        have Hbg := Lib.hid hbg
        clear hat hlq e hbg
        go_wp2_with (go_at_call 78; refine Hat.out.mono ?_; rintro e w' ⟨rfl, rfl⟩)
        have hxq : σ q < m := Hlt.out q hqm
        have hxn : σ q ≠ i0 := Hne.out q hqm E.out
        refine loopL (b := b) (n := n) (m := m) (pn := pn) (q := q) (g4 := g4) (mb := mb) (gv := gv) (cv := cv) (x := σ q) (g := g) (h := h) (N := N) (M := M) (F := fun i => if i < q then lineOf N n (σ i) else lineOf M n (σ i)) (G := fun i => if i < q then byOf N n m (σ i) else byOf M n m (σ i)) (piv := fun j => M i0 j) (d := d) (ord := ord) (cnt := cnt) (D := D)
          hn hm hqm hpm (fun e => E.out e.symm) (fun j _ w' => Hstep.out _ hxq hxn j w') (fun j hj => ?_) Hbg.out Hsep.out (hmf1.congr (fun i _ => ?_) (fun _ _ => rfl)) hfr1 hbx1 ?_
        · split
          · rw [Hpn.out, getI_lineOf hj, HN0.out]
          · rw [Hpn.out, getI_lineOf hj]
        · by_cases e : i = q
          · rw [if_pos e, e, if_neg (Nat.lt_irrefl q), mixL_zero]
          · rw [if_neg e]
        intro x16 x103 x104 x105 x106 x107 x108 x109 x110 x111 x112 x113 x114 x115 x116 x117 x118 x119 x120 x121 x122 x123 x124 x125 x126 x127 x128 x129 w8 hmf8 hfr8 hbx8
        have hx1 : w8.cell? ⟨wq.heap.size, 1, none⟩ = some (sl (h q) m) := hbx8.cell 1 (by simp)
        go_wp2
        refine loopB (b := b) (n := n) (m := m) (pn := pn) (q := q) (g4 := g4) (mb := mb) (gv := gv) (cv := cv) (x := σ q) (g := g) (h := h) (N := N) (M := M) (F := fun i => if i < q then byOf N n m (σ i) else byOf M n m (σ i)) (G := fun i => if i = q then mixL N M n (σ q) n else if i < q then lineOf N n (σ i) else lineOf M n (σ i)) (piv := fun j => M i0 (n + j)) (d := d) (ord := ord) (cnt := cnt) (D := D)
          hn hm hqm hpm (fun e => E.out e.symm) (fun j _ w' => Hstep.out _ hxq hxn (n + j) w') (fun j hj => ?_) Hbg.out Hsep.out (hmf8.congr (fun _ _ => rfl) (fun i _ => ?_)) hfr8 hbx8 ?_
        · split
          · rw [Hpn.out, getI_byOf hj, HN0.out]
          · rw [Hpn.out, getI_byOf hj]
        · by_cases e : i = q
          · rw [if_pos e, e, if_neg (Nat.lt_irrefl q), mixB_zero]
          · rw [if_neg e]
        intro y17 y133 y134 y135 y136 y137 y138 y139 y140 y141 y142 y143 y144 y145 y146 y147 y148 y149 y150 y151 y152 y153 y154 y155 y156 y157 y158 y159 w9 hmf9 hfr9 hbx9
        go_wp2
        go_roundw
        case rel =>
          refine ⟨q + 1, by omega, by go_num, hmf9.congr (fun i _ => ?_) (fun i _ => ?_), hfr9⟩
          · by_cases e1 : i = q
            · rw [if_pos e1, if_pos (by omega), mixL_all, e1]
            · rw [if_neg e1]
              by_cases e2 : i < q
              · rw [if_pos e2, if_pos (by omega)]
              · rw [if_neg e2, if_neg (by omega)]
          · by_cases e1 : i = q
            · rw [if_pos e1, if_pos (by omega), mixB_all, e1]
            · rw [if_neg e1]
              by_cases e2 : i < q
              · rw [if_pos e2, if_pos (by omega)]
              · rw [if_neg e2, if_neg (by omega)]
        case measure => simp [intOf]; omega
    · obtain rfl : q = m := by omega
      have hx := Hexit.out
      go_wp2
      exact hx _ _ _ _ _ _ _ _ _ _ _ _ _ _ _ _ _ _ _ _ _ _ _ _ _ _ _ _ _ _ _ _ _ _ _ _ _ _ _ _ _ _ _ _ _ _ _ _ _ _ _ _ _ _ _ _ _ _ _ _ _ _ _ _ _ _ _ _ _ _ _ _ _ _ _ _ _ _ wq hmf hfr
end Go.Proofs.Ytbclbcldplmppaa

/- solve: the walk. -/
namespace Go.Proofs.Ytbclbcldplmppaa
open Go.RowKit

/-- What solve hands back. -/
def SolveRes (w : World) (n m : Nat) (A0 : Nat → Nat → Int) (cols : List Nat) (ordv : Value) (e : Ending) (w' : World) : Prop :=
  ∃ v mb g h σ pv M d D, e = .returned (.agg #[v, .map (some mb), ordv, .int .i64 d]) ∧ SolSt A0 n m cols σ pv M d ∧
    MF w w' v n m m g h (fun k => lineOf M n (σ k)) (fun k => byOf M n m (σ k)) ∧ MapI w' mb pv.length D ∧ MapIs D (colsP pv) ∧ w.heap.size ≤ mb

set_option maxRecDepth 100000 in
set_option maxHeartbeats 8000000 in
theorem solve_any (Ad : Option Addr) (c n m : Nat) (A0 : Nat → Nat → Int) (Or : Option Addr) (oc : Nat) (cols : List Nat) (w : World) (hA : RIn w Ad n m (fun k => lineOf A0 n k) (fun k => byOf A0 n m k)) (hO : Ints w Or (cols.map fun (c : Nat) => (c : Int)))
    (hc : ∀ c ∈ cols, c < n) (hcl : cols.length ≤ 1000) (hn : n ≤ 8) (hm : m ≤ 16) (h97 : ∀ x, x < m → ∀ C : List Nat, C.Nodup → S C (fun j => ((A0 x j).natAbs : Int)) ≤ 97) :
    Calls Try.prog 65 #[.slice Ad m c, .slice Or cols.length oc] w (SolveRes w n m A0 cols (.slice Or cols.length oc)) := by
  have ho1 : ∀ t (ht : t < cols.length), ∃ od, Or = some od ∧ ∀ w', Ext w w' → w'.cell? (od.add t) = some (.int .i64 (cols[t] : Int)) := fun t ht => by
    obtain ⟨od, h1, h2⟩ := hO.some_ (by simp; omega)
    refine ⟨od, h1, fun w' he => ?_⟩
    have := h2 t (by simpa using ht) w' he
    rw [this, getI_eq (by simpa using ht)]
    simp
  have HO := Lib.hid ho1
  have Hc := Lib.hid hc
  have H97 := Lib.hid h97
  clear hO ho1 hc h97
  have hstart := SolSt.start A0 n m
  have Hstart := Lib.hid hstart
  clear hstart
  obtain ⟨ol, hol⟩ : ∃ ol, ol = cols.length := ⟨_, rfl⟩
  rw [← hol]
  rw [← hol] at hcl
  have Hol := Lib.hid hol
  clear hol
  have HA := Lib.hid hA
  clear hA
  have hmm := @run_makeMap Try.prog
  go_enter Try.func65, Try.ntmps65
  go_wp2
  go_step3
  go_wp2
  clear hmm
  have hfr : Fr (((w.alloc (.cells #[.slice none 0 0, .map none, .slice none 0 0, .int .i64 0] 101)).alloc (.map #[] 0)).alloc (.cells #[.slice none 0 0, .map (some (w.heap.size + 1)), .slice Or ol oc, .int .i64 1] 101)) w.heap.size (w.heap.size + 1) (w.heap.size + 1 + 1) (.slice none 0 0) (.slice Or ol oc) 1 0 (.map []) := by
    refine ⟨?_, ?_, ?_, by omega, by omega⟩
    · exact ((Bx.of_heap (t := 101) (heap_alloc_new _ _)).later ((Ext.refl _).alloc _)).later ((Ext.refl _).alloc _)
    · have hs : ((w.alloc (.cells #[.slice none 0 0, .map none, .slice none 0 0, .int .i64 0] 101)).alloc (.map #[] 0)).heap.size = w.heap.size + 1 + 1 := by simp only [World.alloc, Array.size_push]
      have := Bx.of_heap (heap_alloc_new ((w.alloc (.cells #[.slice none 0 0, .map none, .slice none 0 0, .int .i64 0] 101)).alloc (.map #[] 0)) (.cells #[.slice none 0 0, .map (some (w.heap.size + 1)), .slice Or ol oc, .int .i64 1] 101))
      rw [hs] at this
      exact this
    · have hs : (w.alloc (.cells #[.slice none 0 0, .map none, .slice none 0 0, .int .i64 0] 101)).heap.size = w.heap.size + 1 := by simp only [World.alloc, Array.size_push]
      have := (World.ownsMap_made (H := Unit) (w.alloc (.cells #[.slice none 0 0, .map none, .slice none 0 0, .int .i64 0] 101)) Try.prog 3 (plainElem Try.prog 3)).alloc (.cells #[.slice none 0 0, .map (some (w.heap.size + 1)), .slice Or ol oc, .int .i64 1] 101)
      rw [hs] at this
      exact this
  have hexi : Ext w (((w.alloc (.cells #[.slice none 0 0, .map none, .slice none 0 0, .int .i64 0] 101)).alloc (.map #[] 0)).alloc (.cells #[.slice none 0 0, .map (some (w.heap.size + 1)), .slice Or ol oc, .int .i64 1] 101)) := (((Ext.refl _).alloc _).alloc _).alloc _
  have h4w : w.heap.size ≤ w.heap.size := Nat.le_refl _
  generalize (((w.alloc (.cells #[.slice none 0 0, .map none, .slice none 0 0, .int .i64 0] 101)).alloc (.map #[] 0)).alloc (.cells #[.slice none 0 0, .map (some (w.heap.size + 1)), .slice Or ol oc, .int .i64 1] 101)) = wi at *
  generalize hg5 : w.heap.size + 1 + 1 = g5 at *
  generalize hmb : w.heap.size + 1 = mb at *
  generalize hg4 : w.heap.size = g4 at *
  have H45 := Lib.hid (show g4 + 1 = mb ∧ mb + 1 = g5 ∧ w.heap.size = g4 from ⟨hmb, hg5, hg4⟩)
  clear hg5 hmb hg4 h4w
  go_loopw [23] (fun i wr => ∃ k : Nat, k ≤ m ∧ i = .int .i64 k ∧ ∃ v g h, MF w wr v n m k g h (fun k => lineOf A0 n k) (fun k => byOf A0 n m k) ∧ Fr wr g4 mb g5 v (.slice Or ol oc) 1 0 (.map []) ∧ Sep g5 v k g h) (fun i _ => m - (intOf i).toNat)
  case atStart => exact ⟨0, by omega, rfl, _, fun _ => 0, fun _ => 0, MF.start hexi _ _ _ _ _ _, hfr, ⟨fun k hk => (by cases hk), fun k hk => by omega, fun k hk => by omega⟩⟩
  case round =>
    clear hfr hexi
    obtain ⟨wo, rfl⟩ : ∃ wo : World, wo = wr := ⟨_, rfl⟩
    obtain ⟨k, hk, rfl, v, g, h, hmf, hfr, hsep⟩ := hrel
    by_cases hlt : k < m
    · obtain ⟨ad, A1, A2, rfl, q0, q1, i1, i2, l1, l2⟩ := HA.out k hlt
      obtain ⟨Av, cv, rfl⟩ := hmf.own.form
      have q0 := q0 wo hmf.ext
      have q1 := q1 wo hmf.ext
      have i1 : ∀ w', Ext wo w' → Ints w' A1 (lineOf A0 n k) := fun w' he => i1 w' (hmf.ext.trans he)
      have i2 : ∀ w', Ext wo w' → Ints w' A2 (byOf A0 n m k) := fun w' he => i2 w' (hmf.ext.trans he)
      have t1 := fun (w' : World) (he : Ext wo w') => twin_any A1 n (lineOf A0 n k) w' (i1 w' he) (by rw [lineOf_length]; omega)
      have t2 := fun (w' : World) (he : Ext wo w') => twin_any A2 m (byOf A0 n m k) w' (i2 w' he) (by rw [byOf_length]; omega)
      rw [l1] at t1
      rw [l2] at t2
      have T1 := Lib.hid t1
      have T2 := Lib.hid t2
      have L1 := Lib.hid l1
      have L2 := Lib.hid l2
      clear t1 t2 i1 i2 l1 l2
      have c50 : ∀ w', Ext wo w' → w'.cell? ⟨g5, 0, none⟩ = some (.slice Av k cv) := fun w' he => he.cell (hfr.b5.cell 0 (by simp))
      have hx0 : ∀ w', Ext (wo.alloc (.cells #[.slice A1 n n, .slice A2 m m] 117)) w' → w'.cell? ⟨wo.heap.size, 0, none⟩ = some (.slice A1 n n) := fun w' he => he.cell (by simp)
      have hx1 : ∀ w', Ext (wo.alloc (.cells #[.slice A1 n n, .slice A2 m m] 117)) w' → w'.cell? ⟨wo.heap.size, 1, none⟩ = some (.slice A2 m m) := fun w' he => he.cell (by simp)
      go_wp2
      have hx00 : Ext wo (wo.alloc (.cells #[.slice A1 n n, .slice A2 m m] 117)) := (Ext.refl _).alloc _
      generalize wo.alloc (.cells #[.slice A1 n n, .slice A2 m m] 117) = w0 at *
      have c50 : ∀ w', Ext w0 w' → _ := fun w' he => c50 w' (hx00.trans he)
      refine Cf.wp_region_calm (p := Cf.extPre) (fr := fun j => j == 4 || j == 7) 10 (fun j _ v w => ∃ xs, xs = (bif j == 4 then lineOf A0 n k else byOf A0 n m k) ∧ ∃ g, v = sl g xs.length ∧ NewInts w0 w g xs) (fun _ _ _ _ _ he ⟨xs, hxs, g, hg, hn⟩ => ⟨xs, hxs, g, hg, hn.later he⟩) (by kernel_rfl) (by kernel_rfl) ?_
      simp only [List.take_succ_cons, List.take_zero, List.drop_succ_cons, List.drop_zero]
      refine Cf.calm_quiet Cf.calm_mono_final w0 (fun _ h => h) 4 (by kernel_rfl) ?_
      simp only [List.take_succ_cons, List.take_zero, List.drop_succ_cons, List.drop_zero]
      repeat (go_big_quiet_step (fail))
      refine wpQuiet_nil ?_
      refine Cf.calm_call Cf.calm_mono_final 94 #[.slice A1 n n] rfl (fun w => ?_) (fun w he _ => ?_) ?_
      · go_simp
      · refine (T1.out w (hx00.trans he)).mono fun e w'' h => ?_
        obtain ⟨g, rfl, hn⟩ := h
        exact ⟨_, rfl, hn.ext, ⟨_, rfl, g, rfl, hn.since he⟩, fun _ => hn.new⟩
      rintro v4 w' _ ⟨xs, hxs, g0, rfl, _⟩ _
      have hxs' : xs = lineOf A0 n k := hxs
      subst hxs'
      clear hxs
      simp only [Act.put, List.setIfInBounds_toArray, List.set_cons_succ, List.set_cons_zero]
      refine Cf.calm_quiet Cf.calm_mono_final w0 (fun _ h => h) 2 (by kernel_rfl) ?_
      simp only [List.take_succ_cons, List.take_zero, List.drop_succ_cons, List.drop_zero]
      repeat (go_big_quiet_step (fail))
      refine wpQuiet_nil ?_
      refine Cf.calm_call Cf.calm_mono_final 94 #[.slice A2 m m] rfl (fun w => ?_) (fun w he _ => ?_) ?_
      · go_simp
      · refine (T2.out w (hx00.trans he)).mono fun e w'' h => ?_
        obtain ⟨g, rfl, hn⟩ := h
        exact ⟨_, rfl, hn.ext, ⟨_, rfl, g, rfl, hn.since he⟩, fun _ => hn.new⟩
      rintro v7 w'' _ ⟨xs, hxs, h0, rfl, _⟩ hfar
      have hxs' : xs = byOf A0 n m k := hxs
      subst hxs'
      clear hxs
      have hgh : g0 ≠ h0 := by
        have := hfar rfl (sl g0 (lineOf A0 n k).length) (.inr ⟨rfl, rfl⟩)
        simpa [sl, Value.ownBlock] using this
      clear hfar
      simp only [Act.put, List.setIfInBounds_toArray, List.set_cons_succ, List.set_cons_zero]
      have hl1 : (lineOf A0 n k).length = n := L1.out
      have hl2 : (byOf A0 n m k).length = m := L2.out
      refine Cf.calm_value Cf.calm_mono_final (fun v _ => v = .agg #[sl g0 (lineOf A0 n k).length, sl h0 (byOf A0 n m k).length]) (fun _ _ _ _ h => h) rfl (fun w he _ => ⟨_, w, by go_simp, Ext.refl w, rfl, fun hf => by cases hf⟩) ?_
      rintro v8 _ _ rfl _
      simp only [Act.put, List.setIfInBounds_toArray, List.set_cons_succ, List.set_cons_zero]
      refine Cf.calm_value Cf.calm_mono_final (fun v w => ∃ b, v = sl b 1 ∧ w.heap[b]? = some (.cells #[sl g0 (lineOf A0 n k).length, sl h0 (byOf A0 n m k).length] 117)) (fun _ _ _ he ⟨b, e, hh⟩ => ⟨b, e, Ext.heap he hh⟩) rfl (fun w he _ => ⟨sl w.heap.size 1, w.alloc (.cells #[sl g0 (lineOf A0 n k).length, sl h0 (byOf A0 n m k).length] 117), by go_simp, (Ext.refl w).alloc _, ⟨_, rfl, heap_alloc_new _ _⟩, fun hf => by cases hf⟩) ?_
      rintro v9 _ _ ⟨bs, rfl, _⟩ _
      simp only [Act.put, List.setIfInBounds_toArray, List.set_cons_succ, List.set_cons_zero]
      refine Cf.calm_nil fun w3 he3 hF => ?_
      obtain ⟨xs, hxs, g', eg, hg⟩ := (hF.1 4).1.1.1.2 rfl
      have hxs' : xs = lineOf A0 n k := hxs
      subst hxs'
      clear hxs
      obtain ⟨xs, hxs, h', eh, hh⟩ := (hF.1 7).1.1.2 rfl
      have hxs' : xs = byOf A0 n m k := hxs
      subst hxs'
      clear hxs
      obtain ⟨b', eb, hbs⟩ := (hF.1 9).2 rfl
      simp only [sl, Value.slice.injEq, Option.some.injEq, Addr.mk.injEq, and_true] at eg eh eb
      subst eg eh eb
      clear hF
      rw [hl1, hl2] at *
      have hx03 : Ext wo w3 := hx00.trans he3
      have hown3 := hmf.own.later hx03
      have hrow := row_heap hbs
      have hfr3 := hfr.later hx03
      go_wp2_with (
        (refine own_append_at (w1 := w) row_elem rfl _ _ 98 rfl Try.underlying98 _ k (rowCells n m k g h) rfl hown3 _ 1 1 _ rfl rfl hrow (by intro u hu; simp at hu; rcases hu with rfl | rfl <;> rfl) (by omega) (by unfold maxLen; omega) ?_; intro v' w4 ho hgr hob; obtain ⟨Av', cv', rfl⟩ := ho.form; have hfr4 := hfr3.grown hgr (fun k' e => hsep.v k' e); have c54 := hfr4.b5.cell 0 (by simp); have f54 := hfr4.b5.free 0))
      have hlt5 : g5 < wo.heap.size := hfr.b5.lt
      have hmf4 := hmf.append hx03 (hg.since hx00) (hh.since hx00) hgh L1.out L2.out ho hgr rfl rfl
      have hsep4 : Sep g5 (.slice Av' (k + 1) cv') (k + 1) (fun i => if i = k then g0 else g i) (fun i => if i = k then h0 else h i) := by
        have b1 := hx00.le
        have b2 := hg.2.1
        have b3 := hh.2.1
        have b4 := hx03.le
        refine ⟨fun i hi => ?_, fun i hi => ?_, fun i hi => ?_⟩
        · rcases hob with e | e
          · exact hsep.v i (e ▸ hi)
          · rw [e] at hi; injection hi with hi; omega
        · by_cases e : i = k
          · rw [if_pos e]; omega
          · rw [if_neg e]; exact hsep.g i (by omega)
        · by_cases e : i = k
          · rw [if_pos e]; omega
          · rw [if_neg e]; exact hsep.h i (by omega)
      have hmf5 := hmf4.other (p := ⟨g5, 0, none⟩) (by omega) (by omega) (by have := H45.out; simp only; omega) (fun e => absurd (hsep4.v g5 e) (Nat.lt_irrefl _)) (fun i hi => by have := hsep4.g i hi; simp only; omega) (fun i hi => by have := hsep4.h i hi; simp only; omega) (.slice Av' (k + 1) cv')
      have hfr5 := hfr4.setRows (.slice Av' (k + 1) cv')
      go_roundw
      case rel => exact ⟨k + 1, by omega, by go_num, _, _, _, hmf5, hfr5, hsep4⟩
      case measure => simp [intOf]; omega
    · obtain rfl : m = k := by omega
      clear HA
      obtain ⟨Av, cv, rfl⟩ := hmf.own.form
      go_wp2
      go_step3
      go_wp2
      have hst := Hstart.out
      clear hk hlt
      go_loopw [42] (fun i wr => ∃ t : Nat, t ≤ ol ∧ i = .int .i64 t ∧ ∃ v g h σ pv M d D, SolSt A0 n m (cols.take t) σ pv M d ∧
        MF w wr v n m m g h (fun k => lineOf M n (σ k)) (fun k => byOf M n m (σ k)) ∧ Fr wr g4 mb g5 v (.slice Or ol oc) d pv.length D ∧ Sep g5 v m g h ∧ MapIs D (colsP pv)) (fun i _ => ol - (intOf i).toNat)
      case atStart => exact ⟨0, by omega, rfl, _, _, _, _, _, _, _, _, by rw [List.take_zero]; exact hst, hmf, hfr, hsep, MapIs.start⟩
      case round =>
        clear hst hmf hfr hsep
        clear wo Av cv g h
        obtain ⟨wo, rfl⟩ : ∃ wo : World, wo = wr := ⟨_, rfl⟩
        obtain ⟨t, ht, rfl, v, g, h, σ, pv, M, d, D, hsol, hmf, hfr, hsep, hmap⟩ := hrel
        obtain ⟨Av, cv, rfl⟩ := hmf.own.form
        by_cases htl : t < ol
        · have htc : t < cols.length := by rw [← Hol.out]; exact htl
          obtain ⟨od, rfl, hod⟩ := HO.out t htc
          have hod := hod wo hmf.ext
          have hcn := Hc.out cols[t] (List.getElem_mem htc)
          have htake : cols.take (t + 1) = cols.take t ++ [cols[t]] := List.take_succ_eq_append_getElem htc
          have Htake := Lib.hid htake
          clear htake
          generalize cols[t] = cc at *
          have hsz : Maps.size D = pv.length := by rw [hmap.size]; simp [colsP]
          have c51 : wo.cell? ⟨g5, 1, none⟩ = some (.map (some mb)) := hfr.b5.cell 1 (by simp)
          have c50 : wo.cell? ⟨g5, 0, none⟩ = some (.slice Av m cv) := hfr.b5.cell 0 (by simp)
          have hle := hsol.le
          have Hsol := Lib.hid hsol
          have Hmap := Lib.hid hmap
          clear hsol hmap
          go_wp2_with (refine wpList_len_own _ rfl _ 99 rfl 3 3 Try.underlying99 _ mb pv.length D rfl hfr.mp ?_; rw [hsz])
          go_loop [11] (fun i => ∃ k : Nat, pv.length ≤ k ∧ k ≤ m ∧ i = .int .i64 k ∧ ∀ j, pv.length ≤ j → j < k → M (σ j) cc = 0) (fun i => m - (intOf i).toNat)
          case atStart => exact ⟨pv.length, by omega, hle, rfl, fun j h1 h2 => by omega⟩
          case round =>
            obtain ⟨k, hk1, hk2, rfl, hz⟩ := hrel
            have Hz := Lib.hid hz
            clear hz
            by_cases hkm : k < m
            · obtain ⟨gv, cv', hv, hgv⟩ := hmf.own.at_ (by omega)
              simp only [Value.slice.injEq, true_and] at hv
              obtain ⟨rfl, rfl⟩ := hv
              have r0 : wo.cell? ⟨gv, k * 2, none⟩ = some (sl (g k) n) := by
                rw [hmf.own.cell (j := k * 2) (by rw [rowCells_len]; omega)]
                exact (rowCells_get n m m g h hkm).1
              have r1 : wo.cell? ⟨gv, k * 2 + 1, none⟩ = some (sl (h k) m) := by
                rw [hmf.own.cell (j := k * 2 + 1) (by rw [rowCells_len]; omega)]
                exact (rowCells_get n m m g h hkm).2
              have hat := at_any (some ⟨g k, 0, none⟩) n cc (lineOf M n (σ k)) wo (hmf.gl k hkm).1.ints (by rw [lineOf_length]; exact hcn)
              rw [lineOf_length, getI_lineOf hcn] at hat
              have Hat := Lib.hid hat
              clear hat
              have hki : (k : Int) < (m : Int) := by omega
              by_cases hp : M (σ k) cc = 0
              · rw [hp] at Hat
                have Hp := Lib.hid hp
                clear hp
                go_wp2_with (go_at_call 78; refine Hat.out.mono ?_; rintro e w' ⟨rfl, rfl⟩)
                go_round
                case rel => exact ⟨k + 1, by omega, by omega, by go_num, fun j h1 h2 => by
                  by_cases e : j = k
                  · subst e; exact Hp.out
                  · exact Hz.out j h1 (by omega)⟩
                case measure => simp [intOf]; omega
              · have hpb : (M (σ k) cc == 0) = false := by simpa using hp
                go_wp2_with (go_at_call 78; refine Hat.out.mono ?_; rintro e w' ⟨rfl, rfl⟩)
                have hpm : pv.length < m := by omega
                obtain ⟨pn, hpn⟩ : ∃ pn, pn = pv.length := ⟨_, rfl⟩
                rw [← hpn] at hpm hk1 hfr ⊢
                have Hpn := Lib.hid hpn
                have p0 : wo.cell? ⟨gv, pn * 2, none⟩ = some (sl (g pn) n) := by
                  rw [hmf.own.cell (j := pn * 2) (by rw [rowCells_len]; omega)]
                  exact (rowCells_get n m m g h hpm).1
                have p1 : wo.cell? ⟨gv, pn * 2 + 1, none⟩ = some (sl (h pn) m) := by
                  rw [hmf.own.cell (j := pn * 2 + 1) (by rw [rowCells_len]; omega)]
                  exact (rowCells_get n m m g h hpm).2
                have hfz : ∀ j, wo.frozen? ⟨gv, j, none⟩ = false := fun j => hmf.own.free j
                have hg5v : g5 ≠ gv := fun e => by have := hsep.v gv rfl; omega
                have hpni : (pn : Int) < (m : Int) := by omega
                clear hpn hsz hle
                have s1 : (wo.setCell ⟨gv, pn * 2, none⟩ (sl (g k) n)).cell? ⟨gv, pn * 2 + 1, none⟩ = some (sl (h pn) m) := by
                  rw [World.cell?_setCell_other _ _ _ _ (by simp)]; exact p1
                have some_of : ∀ (W : World) (x y : Nat) (u : Value), (∃ z, W.cell? ⟨gv, y, none⟩ = some z) → ∃ z, (W.setCell ⟨gv, x, none⟩ u).cell? ⟨gv, y, none⟩ = some z := fun W x y u ⟨z, hz⟩ => by
                  by_cases e : x = y
                  · subst e; exact ⟨u, World.cell?_setCell_same _ _ _ hz⟩
                  · exact ⟨z, by rw [World.cell?_setCell_other _ _ _ _ (by simp)]; exact hz⟩
                obtain ⟨z2, s2⟩ := some_of _ (pn * 2 + 1) (k * 2) (sl (h k) m) (some_of wo (pn * 2) (k * 2) (sl (g k) n) ⟨_, r0⟩)
                obtain ⟨z3, s3⟩ := some_of _ (k * 2) (k * 2 + 1) (sl (g pn) n) (some_of _ (pn * 2 + 1) (k * 2 + 1) (sl (h k) m) (some_of wo (pn * 2) (k * 2 + 1) (sl (g k) n) ⟨_, r1⟩))
                clear some_of
                go_region
                have hmfS := (hmf.swap (σ := σ) (F := fun x => lineOf M n x) (G := fun x => byOf M n m x) hpm hkm (by omega) (by omega)).later (Ext.refl _).drew
                have hfrS := ((((hfr.other (p := ⟨gv, pn * 2, none⟩) (hsep.v gv rfl) (sl (g k) n)).other (p := ⟨gv, pn * 2 + 1, none⟩) (hsep.v gv rfl) (sl (h k) m)).other (p := ⟨gv, k * 2, none⟩) (hsep.v gv rfl) (sl (g pn) n)).other (p := ⟨gv, k * 2 + 1, none⟩) (hsep.v gv rfl) (sl (h pn) m)).later (Ext.refl _).drew
                have hsepS : Sep g5 (.slice (some ⟨gv, 0, none⟩) m cv) m (swapF g pn k) (swapF h pn k) := ⟨hsep.v, fun i hi => by
                  obtain ⟨i', hi', e⟩ := swapF_lt (σ := g) hpm hkm hi
                  rw [e]; exact hsep.g i' hi', fun i hi => by
                  obtain ⟨i', hi', e⟩ := swapF_lt (σ := h) hpm hkm hi
                  rw [e]; exact hsep.h i' hi'⟩
                generalize ((((wo.setCell ⟨gv, pn * 2, none⟩ (sl (g k) n)).setCell ⟨gv, pn * 2 + 1, none⟩ (sl (h k) m)).setCell ⟨gv, k * 2, none⟩ (sl (g pn) n)).setCell ⟨gv, k * 2 + 1, none⟩ (sl (h pn) m)).drew = ws at hmfS hfrS ⊢
                clear s1 s2 s3 p0 p1 r0 r1 hfz c50 c51 hmf hfr hsep z2 z3 hod hpb hki
                generalize swapF g pn k = g' at hmfS hsepS
                generalize swapF h pn k = h' at hmfS hsepS
                obtain ⟨σ', hσ'⟩ : ∃ σ', σ' = swapF σ pn k := ⟨_, rfl⟩
                rw [← hσ'] at hmfS
                have c50 : ws.cell? ⟨g5, 0, none⟩ = some (.slice (some ⟨gv, 0, none⟩) m cv) := hfrS.b5.cell 0 (by simp)
                go_wp2
                clear c50
                have hsol := Hsol.out
                have hpl : pv.length ≤ k := by rw [← Hpn.out]; exact hk1
                obtain ⟨N, hN⟩ : ∃ N, N = newM M d (σ k) cc := ⟨_, rfl⟩
                obtain ⟨i0, hi0⟩ : ∃ i0, i0 = σ k := ⟨_, rfl⟩
                have hnew := hsol.pivot (i := k) hpl hkm hcn hp
                have hl8 : (pv ++ [(σ k, cc)]).length ≤ 8 := Nat.le_trans hnew.le_n hn
                have bM := hsol.bar.small H97.out hsol.cnd (Nat.le_trans hsol.le_n hn)
                have bN := hnew.bar.small H97.out hnew.cnd hl8
                have hst : ∀ x, x < m → x ≠ i0 → ∀ j (w' : World), Calls Try.prog 95 #[.int .i64 (M i0 cc), .int .i64 (M x j), .int .i64 (M x cc), .int .i64 (M i0 j), .int .i64 d] w' fun e w'' => e = .returned (.int .i64 (N x j)) ∧ Ext w' w'' := fun x hx hne j w' => by
                  rw [hN, hi0]
                  exact step_any _ _ _ _ _ _ w' (bM.2 _ (hsol.lt k hkm) _) (bM.2 _ hx _) (bM.2 _ hx _) (bM.2 _ (hsol.lt k hkm) _) hsol.bar.ne bM.1 (hsol.newM_mul hpl hkm hp hx (by rw [← hi0]; exact hne) j) (bN.2 _ hx _)
                have hN0 : ∀ j, N i0 j = M i0 j := fun j => by rw [hN, hi0]; unfold newM; rw [if_pos rfl]
                have hlt' : ∀ i, i < m → σ' i < m := fun i hi => by
                  obtain ⟨i', hi', e⟩ := swapF_lt (σ := σ) hpm hkm hi
                  rw [hσ', e]; exact hsol.lt i' hi'
                have hpn' : σ' pn = i0 := by rw [hσ', hi0]; unfold swapF; rw [if_pos rfl]
                have hne' : ∀ i, i < m → i ≠ pn → σ' i ≠ i0 := fun i hi hne e => by
                  rw [hi0, hσ'] at e
                  exact hne (swapF_inj (σ := σ) hpm hkm hsol.inj i pn hi hpm (by rw [e]; unfold swapF; rw [if_pos rfl]))
                have hnew' : SolSt A0 n m (cols.take t ++ [cc]) σ' (pv ++ [(i0, cc)]) N (M i0 cc) := by
                  rw [hσ', hN, hi0, Hpn.out]; exact hnew
                rw [← hi0]
                have Hst := Lib.hid hst
                have HN0 := Lib.hid hN0
                have Hnew := Lib.hid hnew'
                have Hlt' := Lib.hid hlt'
                have Hne' := Lib.hid hne'
                have Hpn' := Lib.hid hpn'
                have HP := Lib.hid hp
                clear hst hN0 hnew hnew' hlt' hne' hpn' bM bN hsol hpl hl8 hN hσ' hi0 hp
                refine loopR (b := w) (n := n) (m := m) (pn := pn) (cc := cc) (g4 := g4) (mb := mb) (gv := gv) (cv := cv) (i0 := i0) (g := g') (h := h') (σ := σ') (N := N) (M := M) (p := M i0 cc) (d := d) (ord := .slice (some od) ol oc) (cnt := pn) (D := D)
                  hn hm hpm hcn Hst.out HN0.out Hlt'.out Hpn'.out Hne'.out hsepS (hmfS.congr (fun i _ => by rw [if_neg (by omega)]) (fun i _ => by rw [if_neg (by omega)])) hfrS ?_
                intro x13 x14 x15 x16 x17 x88 x89 x90 x91 x92 x93 x94 x95 x96 x97 x98 x99 x100 x101 x102 x103 x104 x105 x106 x107 x108 x109 x110 x111 x112 x113 x114 x115 x116 x117 x118 x119 x120 x121 x122 x123 x124 x125 x126 x127 x128 x129 x130 x131 x132 x133 x134 x135 x136 x137 x138 x139 x140 x141 x142 x143 x144 x145 x146 x147 x148 x149 x150 x151 x152 x153 x154 x155 x156 x157 x158 x159 x160 wz hmfz hfrz
                have hmfz := hmfz.congr (L' := fun i => lineOf N n (σ' i)) (B' := fun i => byOf N n m (σ' i)) (fun i hi => by rw [if_pos hi]) (fun i hi => by rw [if_pos hi])
                have z51 : wz.cell? ⟨g5, 1, none⟩ = some (.map (some mb)) := hfrz.b5.cell 1 (by simp)
                have k1 := Maps.keyOf_int_mk (P := Try.prog) Try.underlying3 (wf_nat cc (by omega))
                have k2 := plainElem_int (H := Unit) (P := Try.prog) Try.underlying3 (wf_nat pn (by omega))
                go_wp2_with (refine wpList_mapUpdate_own _ rfl _ _ _ 99 rfl 3 3 (Maps.int_keyed Try.underlying3) Try.underlying99 (plainElem Try.prog 3) mb pn D rfl hfrz.mp (by unfold maxLen; omega) _ _ _ rfl rfl k1 _ _ k2 ?_; intro wy hown hgy; have hby := hfrz.b5.grown hgy (fun e => by have := Option.some.inj e; have := hfrz.e5; omega); have y3 := hby.cell 3 (by simp); have yf := hby.free 3)
                have hfr' := hfrz.pivot hown hgy (M i0 cc)
                have hmf' := (hmfz.grown hgy (by have := H45.out; omega) (fun e => by have := hsepS.v mb e; have := hfrz.e5; omega) (fun i hi => by have := hsepS.g i hi; have := hfrz.e5; omega) (fun i hi => by have := hsepS.h i hi; have := hfrz.e5; omega)).other (p := ⟨g5, 3, none⟩) (by omega) (by omega) (by have := H45.out; simp only; omega) (fun e => absurd (hsepS.v g5 e) (Nat.lt_irrefl _)) (fun i hi => by have := hsepS.g i hi; simp only; omega) (fun i hi => by have := hsepS.h i hi; simp only; omega) (.int .i64 (M i0 cc))
                go_roundw
                case rel =>
                  have hnw := Hnew.out
                  have hcp : colsP (pv ++ [(i0, cc)]) = colsP pv ++ [cc] := by simp [colsP]
                  have hcn2 := hnw.cnd
                  rw [hcp, List.nodup_append] at hcn2
                  have hm2 := Hmap.out.put (c := cc) (fun hm => hcn2.2.2 cc hm cc (by simp) rfl)
                  have hl2 : (colsP pv).length = pn := by rw [Hpn.out]; simp [colsP]
                  rw [hl2] at hm2
                  refine ⟨t + 1, by omega, by go_num, _, g', h', σ', pv ++ [(i0, cc)], N, M i0 cc, _, by rw [Htake.out]; exact hnw, hmf', ?_, hsepS, by rw [hcp]; exact hm2⟩
                  have hl3 : (pv ++ [(i0, cc)]).length = pn + 1 := by rw [Hpn.out]; simp
                  rw [hl3]; exact hfr'
                case measure => simp [intOf]; omega
            · go_wp2
              go_roundw
              case rel =>
                refine ⟨t + 1, by omega, by go_num, _, g, h, σ, pv, M, d, D, by rw [Htake.out]; exact Hsol.out.skip (fun j h1 h2 => Hz.out j h1 (by omega)), hmf, hfr, hsep, Hmap.out⟩
              case measure => simp [intOf]; omega
        · obtain rfl : t = ol := by omega
          have c50 : wo.cell? ⟨g5, 0, none⟩ = some (.slice Av m cv) := hfr.b5.cell 0 (by simp)
          have c51 : wo.cell? ⟨g5, 1, none⟩ = some (.map (some mb)) := hfr.b5.cell 1 (by simp)
          have c52 : wo.cell? ⟨g5, 2, none⟩ = some (.slice Or t oc) := hfr.b5.cell 2 (by simp)
          have c53 : wo.cell? ⟨g5, 3, none⟩ = some (.int .i64 d) := hfr.b5.cell 3 (by simp)
          have c40 : wo.cell? ⟨g4, 0, none⟩ = some (.slice none 0 0) := hfr.b4.cell 0 (by simp)
          have c41 : wo.cell? ⟨g4, 1, none⟩ = some (.map none) := hfr.b4.cell 1 (by simp)
          have c42 : wo.cell? ⟨g4, 2, none⟩ = some (.slice none 0 0) := hfr.b4.cell 2 (by simp)
          have c43 : wo.cell? ⟨g4, 3, none⟩ = some (.int .i64 0) := hfr.b4.cell 3 (by simp)
          have f4 := fun j => hfr.b4.free j
          have e4 := hfr.e4
          have e5 := hfr.e5
          have oth : ∀ (W : World), MF w W (.slice Av m cv) n m m g h (fun k => lineOf M n (σ k)) (fun k => byOf M n m (σ k)) → MapI W mb pv.length D → ∀ (j : Nat) (u : Value), MF w (W.setCell ⟨g4, j, none⟩ u) (.slice Av m cv) n m m g h (fun k => lineOf M n (σ k)) (fun k => byOf M n m (σ k)) ∧ MapI (W.setCell ⟨g4, j, none⟩ u) mb pv.length D := fun W hW hM j u =>
            ⟨hW.other (p := ⟨g4, j, none⟩) (by omega) (by omega) (by have := H45.out; simp only; omega) (fun e => by have := hsep.v g4 e; omega) (fun i hi => by have := hsep.g i hi; simp only; omega) (fun i hi => by have := hsep.h i hi; simp only; omega) u, hM.setCell (a := ⟨g4, j, none⟩) (by simp only; omega) u⟩
          obtain ⟨o1, q1⟩ := oth wo hmf hfr.mp 0 (.slice Av m cv)
          obtain ⟨o2, q2⟩ := oth _ o1 q1 1 (.map (some mb))
          obtain ⟨o3, q3⟩ := oth _ o2 q2 2 (.slice Or t oc)
          obtain ⟨o4, q4⟩ := oth _ o3 q3 3 (.int .i64 d)
          have z0 := World.cell?_setCell_same wo ⟨g4, 0, none⟩ (.slice Av m cv) c40
          have z1 := World.cell?_setCell_same (wo.setCell ⟨g4, 0, none⟩ (.slice Av m cv)) ⟨g4, 1, none⟩ (.map (some mb)) (u := .map none) (by rw [World.cell?_setCell_other _ _ _ _ (by simp)]; exact c41)
          have z2 := World.cell?_setCell_same ((wo.setCell ⟨g4, 0, none⟩ (.slice Av m cv)).setCell ⟨g4, 1, none⟩ (.map (some mb))) ⟨g4, 2, none⟩ (.slice Or t oc) (u := .slice none 0 0) (by rw [World.cell?_setCell_other _ _ _ _ (by simp), World.cell?_setCell_other _ _ _ _ (by simp)]; exact c42)
          have z3 := World.cell?_setCell_same (((wo.setCell ⟨g4, 0, none⟩ (.slice Av m cv)).setCell ⟨g4, 1, none⟩ (.map (some mb))).setCell ⟨g4, 2, none⟩ (.slice Or t oc)) ⟨g4, 3, none⟩ (.int .i64 d) (u := .int .i64 0) (by rw [World.cell?_setCell_other _ _ _ _ (by simp), World.cell?_setCell_other _ _ _ _ (by simp), World.cell?_setCell_other _ _ _ _ (by simp)]; exact c43)
          have hsolf : SolSt A0 n m cols σ pv M d := by
            have := hsol
            rwa [Hol.out, List.take_length] at this
          have hmbw : w.heap.size ≤ mb := by have := H45.out; omega
          have HF := Lib.hid hsolf
          have Hmf := Lib.hid o4
          have Hmp := Lib.hid q4
          have Hmap := Lib.hid hmap
          clear oth o1 o2 o3 o4 q1 q2 q3 q4 hsol hmf hmap hsolf
          go_wp2
          rw [Exit.noGoto_ret]
          refine bodyPost_ret (by simp [results, Try.results65, go_sem, z0, z1, z2, z3]; try rfl) rfl ?_
          exact ⟨_, mb, g, h, σ, pv, M, d, D, rfl, HF.out, Hmf.out, Hmp.out, Hmap.out, hmbw⟩
end Go.Proofs.Ytbclbcldplmppaa

/- The order of shafts, by the code. -/
namespace Go.Proofs.Ytbclbcldplmppaa
open Go.RowKit

set_option maxRecDepth 100000 in
set_option maxHeartbeats 1000000 in
theorem compact_nil (w : World) : Calls Try.prog 96 #[.slice none 0 0] w fun e w' => e = .returned (.slice none 0 0) ∧ w = w' := by
  go_enter Try.func96, Try.ntmps96
  go_wp2
  go_ret
  exact ⟨rfl, rfl⟩

set_option maxRecDepth 100000 in
set_option maxHeartbeats 1000000 in
theorem compact_one (A : Option Addr) (c : Nat) (w : World) : Calls Try.prog 96 #[.slice A 1 c] w fun e w' => e = .returned (.slice A 1 c) ∧ w = w' := by
  go_enter Try.func96, Try.ntmps96
  go_wp2
  go_ret
  exact ⟨rfl, rfl⟩

set_option maxRecDepth 100000 in
set_option maxHeartbeats 4000000 in
theorem compact_two (gl : Nat) (x y : Int) (w : World) (h0 : w.cell? ⟨gl, 0, none⟩ = some (vint x)) (h1 : w.cell? ⟨gl, 1, none⟩ = some (vint y)) (hf : w.frozen? ⟨gl, 1, none⟩ = false) :
    Calls Try.prog 96 #[.slice (some ⟨gl, 0, none⟩) 2 2] w fun e w' =>
      (x ≠ y ∧ e = .returned (.slice (some ⟨gl, 0, none⟩) 2 2) ∧ Ext w w') ∨ (x = y ∧ e = .returned (.slice (some ⟨gl, 0, none⟩) 1 2) ∧ ∃ w1, Ext w w1 ∧ w' = w1.setCell ⟨gl, 1, none⟩ (vint 0)) := by
  go_enter Try.func96, Try.ntmps96
  go_wp2
  go_loopw [3] (fun i wr => Ext w wr ∧ (i = .int .i64 1 ∨ (i = .int .i64 2 ∧ x ≠ y))) (fun i _ => 3 - (intOf i).toNat)
  case atStart => exact ⟨Ext.refl _, .inl rfl⟩
  case round =>
    obtain ⟨hex, hrel⟩ := hrel
    have h0 := hex.cell h0
    have h1 := hex.cell h1
    have hf : wr.frozen? ⟨gl, 1, none⟩ = false := (hex.frozen (World.block_lt_of_cell? _ _ (show w.cell? ⟨gl, 1, none⟩ = some (vint y) by assumption))).trans hf
    rcases hrel with rfl | ⟨rfl, hne⟩
    · by_cases e : x = y
      · have hb : (y == x) = true := by simp [e]
        have E := Lib.hid e
        clear e
        have hcl : ∀ (nq : Nat) ty, (Builtin.clear_ #[22] ty #[.slice (some ⟨gl, 1, none⟩) 1 1]).run Try.prog (wr.drewN nq) = .ok (.tuple #[]) ((wr.drewN nq).setCell ⟨gl, 1, none⟩ (.int .i64 0)) := fun nq ty => by
          have := Go.Lib.run_clear_slice (P := Try.prog) (wr.drewN nq) 22 3 ty (.int .i64 0) Try.underlying22 Try.zeroValue3 rfl rfl gl 1 1 1 (by omega) (fun j hj => by
            obtain rfl : j = 0 := by omega
            have : (wr.drewN nq).cell? ⟨gl, 1, none⟩ = some (vint y) := h1
            simp [this]) (fun j hj => by
            obtain rfl : j = 0 := by omega
            exact hf)
          simpa [World.setCells] using this
        go_wp2
        go_quiet (fail)
        go_wp2
        go_loop [5, 3] (fun i k => i = .int .i64 1 ∧ k = .int .i64 1) (fun _ _ => 0)
        case atStart => exact ⟨rfl, rfl⟩
        case round =>
          obtain ⟨rfl, rfl⟩ := hrel
          go_wp2
          go_ret
          exact .inr ⟨E.out, rfl, _, hex.trans (by simp), rfl⟩
      · have hb : (y == x) = false := by simp; exact fun e' => e e'.symm
        have E := Lib.hid e
        clear e
        go_wp2
        go_quiet (fail)
        go_wp2
        go_roundw
        case rel => exact ⟨hex.trans (by simp), .inr ⟨rfl, E.out⟩⟩
        case measure => simp [intOf]
    · go_wp2
      go_ret
      exact .inl ⟨hne, rfl, hex⟩
end Go.Proofs.Ytbclbcldplmppaa

/- The order of shafts, by the code. -/
namespace Go.Proofs.Ytbclbcldplmppaa
open Go.RowKit

def ordP (xs : List Int) : Nat → List Int
  | 0 => []
  | k + 1 => ordP xs k ++ (if memB xs k then [] else [(k : Int)])
theorem ordP_skip {xs : List Int} {k : Nat} (h : memB xs k = true) : ordP xs (k + 1) = ordP xs k := by simp [ordP, h]
theorem ordP_take {xs : List Int} {k : Nat} (h : memB xs k = false) : ordP xs (k + 1) = ordP xs k ++ [(k : Int)] := by simp [ordP, h]
theorem ordP_le (xs : List Int) : ∀ k, (ordP xs k).length ≤ k
  | 0 => by simp [ordP]
  | k + 1 => by
    have := ordP_le xs k
    unfold ordP
    split <;> simp <;> omega
/-- The order: those that are not named, then those that are. -/
def ordS (S : Nat) (xs : List Int) : List Int := ordP xs S ++ (match xs with
  | [] => []
  | [x] => [x]
  | [x, y] => if x = y then [x] else [x, y]
  | l => l)
def OrdRes (b : World) (l : List Int) (e : Ending) (w' : World) : Prop := ∃ A c, e = .returned (.slice A l.length c) ∧ Ints w' A l ∧ Ext b w'

theorem Own.cap {w1 w : World} {e : TypeId} {size : Nat} {A : Option Addr} {n m c : Nat} {xs : List Value} (h : Own w1 w e size (.slice A m c) n xs) : n ≤ c := by
  rcases h.2.2 with ⟨hv, hn⟩ | ⟨g, cap, cur, hv, _, _, hle, _⟩
  · injection hv with _ _ h3; omega
  · injection hv with _ _ h3; omega
theorem append_nothing (w : World) (ty : TypeId) (A : Option Addr) (n c : Nat) (h : n ≤ c) : (Builtin.append_ #[22, 22] ty #[.slice A n c, .slice none 0 0]).run Try.prog w = .ok (.slice A n c) w := by
  obtain ⟨i, hi, _⟩ := int_elem.info
  exact run_append_nothing w 22 22 ty 3 i Try.underlying22 hi A n c h _ (Src.ofNil w Try.underlying22 0)


theorem wpList_append_none {ops : Array Oper} {rest : List Oper} {o : Oper} {a : Act} {Q : Exit → Act → World → Prop} {w : World} (hg : o.guard = none) (s x : Operand)
    (hop : o.op = .call { callee := .builtin .append, args := #[s, x], argTypes := #[22, 22] }) (A : Option Addr) (n c : Nat) (h : n ≤ c) (hs : a.eval s = .slice A n c) (hx : a.eval x = .slice none 0 0)
    (hK : wpList Try.prog ops Q rest (a.put o.dst (.slice A n c)) w) : wpList Try.prog ops Q (o :: rest) a w := by
  refine wpList_plain hg fun K' hK' => ?_
  unfold Oper.wp execOp
  simp only [hop, resolve, invoke, builtin, Sem.run_bind, Sem.run_pure, Result.andThen_ok, List.map_toArray, List.map_cons, List.map_nil, hs, hx, append_nothing w _ A n c h]
  exact hK' _ _ hK

theorem he_ {w w' : World} {p : Addr} {v : Value} (h : Ext w w') (hc : w.cell? p = some v) : w'.cell? p = some v := h.cell hc
theorem ints_one {w : World} {g : Nat} {x : Int} (h0 : w.cell? ⟨g, 0, none⟩ = some (vint x)) : Ints w (some ⟨g, 0, none⟩) [x] := fun k hk => by
  obtain rfl : k = 0 := by simpa using hk
  exact ⟨_, rfl, by rw [add_zero_, h0]; rfl⟩
theorem ints_two {w : World} {g : Nat} {x y : Int} (h0 : w.cell? ⟨g, 0, none⟩ = some (vint x)) (h1 : w.cell? ⟨g, 1, none⟩ = some (vint y)) : Ints w (some ⟨g, 0, none⟩) [x, y] := fun k hk => by
  rcases (by simp at hk; omega : k = 0 ∨ k = 1) with rfl | rfl
  · exact ⟨_, rfl, by rw [add_zero_, h0]; rfl⟩
  · exact ⟨_, rfl, by rw [add_lit _ _ (by omega), h1]; rfl⟩

set_option maxRecDepth 100000 in
set_option maxHeartbeats 4000000 in
theorem order_nil (S : Nat) (ms : Value) (b w : World) (hb : Ext b w) (hS : S ≤ 8)  :
    Calls Try.prog 67 #[.agg #[.int .i64 S, ms], .slice none 0 0] w (OrdRes b (ordS S [])) := by
  have hcon := fun (s : Nat) (w' : World) (he : Ext w w') => contains_any none 0 [] s w' (Ints.nil _ _) (by simp)
  simp only [List.length_nil] at hcon
  have Hcon := Lib.hid hcon
  clear hcon
  have hsk := fun (k : Nat) (h : memB [] (k : Int) = true) => ordP_skip (xs := []) h
  have htk := fun (k : Nat) (h : memB [] (k : Int) = false) => ordP_take (xs := []) h
  have hle := fun (k : Nat) => ordP_le [] k
  have Hsk := Lib.hid hsk
  have Htk := Lib.hid htk
  have Hle := Lib.hid hle
  clear hsk htk hle
  have Hb := Lib.hid hb
  clear hb
  go_enter Try.func67, Try.ntmps67
  go_wp2
  go_loopw [9, 5] (fun i o wr => ∃ k : Nat, k ≤ S ∧ i = .int .i64 k ∧ Own w wr 3 1 o (ordP [] k).length ((ordP [] k).map vint)) (fun i _ _ => S - (intOf i).toNat)
  case atStart => exact ⟨0, by omega, rfl, Own.nil' (by simp) _ _⟩
  case round =>
    obtain ⟨k, hk, rfl, hown⟩ := hrel
    obtain ⟨Av, cv, hv⟩ := hown.form
    subst hv
    have hex := hown.ext
    have hlk := Hle.out k
    by_cases hlt : k < S
    · cases hm : memB [] (k : Int)
      · have htk := Htk.out k hm
        have hc := Hcon.out k
        rw [hm] at hc
        have Hc := Lib.hid hc
        have Hk := Lib.hid htk
        clear hc htk hm
        generalize ordP [] k = l at *
        go_wp2_with (first
          | (go_at_call 93; refine (Hc.out _ hex).mono ?_; rintro e w' ⟨rfl, rfl⟩)
          | (refine own_append_int (w1 := w) rfl _ _ rfl _ l.length (l.map vint) rfl hown k rfl (by omega) ?_; intro v' w' ho))
        go_roundw
        case rel =>
          refine ⟨k + 1, by omega, by go_num, ?_⟩
          rw [Hk.out, List.length_append, List.map_append]
          exact ho
        case measure => simp [intOf]; omega
      · have htk := Hsk.out k hm
        have hc := Hcon.out k
        rw [hm] at hc
        have Hc := Lib.hid hc
        have Hk := Lib.hid htk
        clear hc htk hm
        go_wp2_with (go_at_call 93; refine (Hc.out _ hex).mono ?_; rintro e w' ⟨rfl, rfl⟩)
        go_roundw
        case rel => exact ⟨k + 1, by omega, by go_num, by rw [Hk.out]; exact hown⟩
        case measure => simp [intOf]; omega
    · obtain rfl : k = S := by omega
      have hcap : (ordP [] k).length ≤ cv := hown.cap
      have hown' := Lib.hid hown
      generalize hl : ordP [] k = l at *
      clear hown
      go_wp2_with (first
        | (go_at_call 96; refine (compact_nil _).mono ?_; rintro e w' ⟨rfl, rfl⟩)
        | (refine wpList_append_none rfl _ _ rfl Av l.length cv hcap rfl rfl ?_))
      go_ret
      have hown := hown'.out
      have e : ordS k [] = l := by simp [ordS, hl]
      rw [e]
      exact ⟨Av, cv, rfl, Own.row hown, Hb.out.trans hown.ext⟩

set_option maxRecDepth 100000 in
set_option maxHeartbeats 4000000 in
theorem order_one (S : Nat) (ms : Value) (b w : World) (hb : Ext b w) (hS : S ≤ 8) (gl : Nat) (x : Int) (h0 : w.cell? ⟨gl, 0, none⟩ = some (vint x)) :
    Calls Try.prog 67 #[.agg #[.int .i64 S, ms], .slice (some ⟨gl, 0, none⟩) 1 1] w (OrdRes b (ordS S [x])) := by
  have hcon := fun (s : Nat) (w' : World) (he : Ext w w') => contains_any (some ⟨gl, 0, none⟩) 1 [x] s w' (ints_one (he.cell h0)) (by simp)
  simp only [List.length_nil, List.length_cons, Nat.zero_add] at hcon
  have Hcon := Lib.hid hcon
  clear hcon
  have hsk := fun (k : Nat) (h : memB [x] (k : Int) = true) => ordP_skip (xs := [x]) h
  have htk := fun (k : Nat) (h : memB [x] (k : Int) = false) => ordP_take (xs := [x]) h
  have hle := fun (k : Nat) => ordP_le [x] k
  have Hsk := Lib.hid hsk
  have Htk := Lib.hid htk
  have Hle := Lib.hid hle
  clear hsk htk hle
  have Hb := Lib.hid hb
  clear hb
  go_enter Try.func67, Try.ntmps67
  go_wp2
  go_loopw [9, 5] (fun i o wr => ∃ k : Nat, k ≤ S ∧ i = .int .i64 k ∧ Own w wr 3 1 o (ordP [x] k).length ((ordP [x] k).map vint)) (fun i _ _ => S - (intOf i).toNat)
  case atStart => exact ⟨0, by omega, rfl, Own.nil' (by simp) _ _⟩
  case round =>
    obtain ⟨k, hk, rfl, hown⟩ := hrel
    obtain ⟨Av, cv, hv⟩ := hown.form
    subst hv
    have hex := hown.ext
    have hlk := Hle.out k
    by_cases hlt : k < S
    · cases hm : memB [x] (k : Int)
      · have htk := Htk.out k hm
        have hc := Hcon.out k
        rw [hm] at hc
        have Hc := Lib.hid hc
        have Hk := Lib.hid htk
        clear hc htk hm
        generalize ordP [x] k = l at *
        go_wp2_with (first
          | (go_at_call 93; refine (Hc.out _ hex).mono ?_; rintro e w' ⟨rfl, rfl⟩)
          | (refine own_append_int (w1 := w) rfl _ _ rfl _ l.length (l.map vint) rfl hown k rfl (by omega) ?_; intro v' w' ho))
        go_roundw
        case rel =>
          refine ⟨k + 1, by omega, by go_num, ?_⟩
          rw [Hk.out, List.length_append, List.map_append]
          exact ho
        case measure => simp [intOf]; omega
      · have htk := Hsk.out k hm
        have hc := Hcon.out k
        rw [hm] at hc
        have Hc := Lib.hid hc
        have Hk := Lib.hid htk
        clear hc htk hm
        go_wp2_with (go_at_call 93; refine (Hc.out _ hex).mono ?_; rintro e w' ⟨rfl, rfl⟩)
        go_roundw
        case rel => exact ⟨k + 1, by omega, by go_num, by rw [Hk.out]; exact hown⟩
        case measure => simp [intOf]; omega
    · obtain rfl : k = S := by omega
      have hcap : (ordP [x] k).length ≤ cv := hown.cap
      have hown' := Lib.hid hown
      have hr := ints_one (he_ hown.ext h0)
      generalize hl : ordP [x] k = l at *
      clear hown
      go_wp2_with (first
        | (go_at_call 96; refine (compact_one _ _ _).mono ?_; rintro e w' ⟨rfl, rfl⟩)
        | (refine own_append_src (w1 := w) int_elem rfl _ _ 22 rfl Try.underlying22 _ l.length (l.map vint) rfl hown'.out _ 1 1 [vint x] rfl rfl hr (by intro u hu; simp at hu; subst hu; rfl) (by omega) (by unfold maxLen; omega) ?_; intro v' w' ho _; obtain ⟨A', c', rfl⟩ := ho.form))
      go_ret
      have e : ordS k [x] = l ++ [x] := by simp [ordS, hl]
      rw [e]
      refine ⟨A', c', by simp, ?_, Hb.out.trans ho.ext⟩
      have := Own.row ho
      simpa [Ints] using this

set_option maxRecDepth 100000 in
set_option maxHeartbeats 4000000 in
theorem order_two (S : Nat) (ms : Value) (b w : World) (hb : Ext b w) (hS : S ≤ 8) (gl : Nat) (x y : Int) (h0 : w.cell? ⟨gl, 0, none⟩ = some (vint x)) (h1 : w.cell? ⟨gl, 1, none⟩ = some (vint y)) (hf : w.frozen? ⟨gl, 1, none⟩ = false) (hgl : b.heap.size ≤ gl) :
    Calls Try.prog 67 #[.agg #[.int .i64 S, ms], .slice (some ⟨gl, 0, none⟩) 2 2] w (OrdRes b (ordS S [x, y])) := by
  have hcon := fun (s : Nat) (w' : World) (he : Ext w w') => contains_any (some ⟨gl, 0, none⟩) 2 [x, y] s w' (ints_two (he.cell h0) (he.cell h1)) (by simp)
  simp only [List.length_nil, List.length_cons, Nat.zero_add, Nat.reduceAdd] at hcon
  have Hcon := Lib.hid hcon
  clear hcon
  have hsk := fun (k : Nat) (h : memB [x, y] (k : Int) = true) => ordP_skip (xs := [x, y]) h
  have htk := fun (k : Nat) (h : memB [x, y] (k : Int) = false) => ordP_take (xs := [x, y]) h
  have hle := fun (k : Nat) => ordP_le [x, y] k
  have Hsk := Lib.hid hsk
  have Htk := Lib.hid htk
  have Hle := Lib.hid hle
  clear hsk htk hle
  have Hb := Lib.hid hb
  clear hb
  go_enter Try.func67, Try.ntmps67
  go_wp2
  go_loopw [9, 5] (fun i o wr => ∃ k : Nat, k ≤ S ∧ i = .int .i64 k ∧ Own w wr 3 1 o (ordP [x, y] k).length ((ordP [x, y] k).map vint)) (fun i _ _ => S - (intOf i).toNat)
  case atStart => exact ⟨0, by omega, rfl, Own.nil' (by simp) _ _⟩
  case round =>
    obtain ⟨k, hk, rfl, hown⟩ := hrel
    obtain ⟨Av, cv, hv⟩ := hown.form
    subst hv
    have hex := hown.ext
    have hlk := Hle.out k
    by_cases hlt : k < S
    · cases hm : memB [x, y] (k : Int)
      · have htk := Htk.out k hm
        have hc := Hcon.out k
        rw [hm] at hc
        have Hc := Lib.hid hc
        have Hk := Lib.hid htk
        clear hc htk hm
        generalize ordP [x, y] k = l at *
        go_wp2_with (first
          | (go_at_call 93; refine (Hc.out _ hex).mono ?_; rintro e w' ⟨rfl, rfl⟩)
          | (refine own_append_int (w1 := w) rfl _ _ rfl _ l.length (l.map vint) rfl hown k rfl (by omega) ?_; intro v' w' ho))
        go_roundw
        case rel =>
          refine ⟨k + 1, by omega, by go_num, ?_⟩
          rw [Hk.out, List.length_append, List.map_append]
          exact ho
        case measure => simp [intOf]; omega
      · have htk := Hsk.out k hm
        have hc := Hcon.out k
        rw [hm] at hc
        have Hc := Lib.hid hc
        have Hk := Lib.hid htk
        clear hc htk hm
        go_wp2_with (go_at_call 93; refine (Hc.out _ hex).mono ?_; rintro e w' ⟨rfl, rfl⟩)
        go_roundw
        case rel => exact ⟨k + 1, by omega, by go_num, by rw [Hk.out]; exact hown⟩
        case measure => simp [intOf]; omega
    · obtain rfl : k = S := by omega
      have hcap : (ordP [x, y] k).length ≤ cv := hown.cap
      have hown' := Lib.hid hown
      have hlw : gl < w.heap.size := World.block_lt_of_cell? _ _ h0
      have hc := compact_two gl x y wr (he_ hown.ext h0) (he_ hown.ext h1) ((hown.ext.frozen hlw).trans hf)
      have Hc2 := Lib.hid hc
      clear hc
      generalize hl : ordP [x, y] k = l at *
      clear hown
      by_cases exy : x = y
      · have Exy := Lib.hid exy
        go_wp2_with (first
          | (go_at_call 96; refine Hc2.out.mono ?_; rintro e w2 (⟨hne, _⟩ | ⟨_, rfl, w1, hx1, rfl⟩); exact absurd Exy.out hne; have hoc := (hown'.out.later hx1); have hob := (hoc.since Hb.out).other (p := ⟨gl, 1, none⟩) hgl (fun e => by have := (hown'.out.2.lt gl e).1; omega) (vint 0); have hr : Row (w1.setCell ⟨gl, 1, none⟩ (vint 0)) (some ⟨gl, 0, none⟩) [vint x] := ints_one (by rw [World.cell?_setCell_other _ _ _ _ (by simp)]; exact hx1.cell (he_ hown'.out.ext h0)))
          | (refine own_append_src (w1 := b) int_elem rfl _ _ 22 rfl Try.underlying22 _ l.length (l.map vint) rfl hob _ 1 2 [vint x] rfl rfl hr (by intro u hu; simp at hu; subst hu; rfl) (by omega) (by unfold maxLen; omega) ?_; intro v' w' ho _; obtain ⟨A', c', rfl⟩ := ho.form))
        go_ret
        have e : ordS k [x, y] = l ++ [x] := by
          show ordP [x, y] k ++ (if x = y then [x] else [x, y]) = _
          rw [hl, if_pos Exy.out]
        rw [e]
        refine ⟨A', c', by simp, ?_, ho.ext⟩
        have := Own.row ho
        simpa [Ints] using this
      · have Exy := Lib.hid exy
        go_wp2_with (first
          | (go_at_call 96; refine Hc2.out.mono ?_; rintro e w2 (⟨_, rfl, hx2⟩ | ⟨he, _⟩); rotate_left; exact absurd he Exy.out; have hob := hown'.out.later hx2; have hr : Row w2 (some ⟨gl, 0, none⟩) [vint x, vint y] := ints_two (hx2.cell (he_ hown'.out.ext h0)) (hx2.cell (he_ hown'.out.ext h1)))
          | (refine own_append_src (w1 := w) int_elem rfl _ _ 22 rfl Try.underlying22 _ l.length (l.map vint) rfl hob _ 2 2 [vint x, vint y] rfl rfl hr (by intro u hu; simp at hu; rcases hu with rfl | rfl <;> rfl) (by omega) (by unfold maxLen; omega) ?_; intro v' w' ho _; obtain ⟨A', c', rfl⟩ := ho.form))
        go_ret
        have e : ordS k [x, y] = l ++ [x, y] := by
          show ordP [x, y] k ++ (if x = y then [x] else [x, y]) = _
          rw [hl, if_neg Exy.out]
        rw [e]
        refine ⟨A', c', by simp, ?_, Hb.out.trans ho.ext⟩
        have := Own.row ho
        simpa [Ints] using this
end Go.Proofs.Ytbclbcldplmppaa

/- Three primes, Fermat's little theorem for them, and the power that inverts. Plain Lean. -/
namespace Go.Proofs.Ytbclbcldplmppaa

def IsPrime (p : Nat) : Prop := 2 ≤ p ∧ ∀ d, d ∣ p → d = 1 ∨ d = p

/-- No divisor from 2 to b. -/
def noDiv (p : Nat) : Nat → Nat → Bool
  | 0, _ => true
  | f + 1, d => p % d != 0 && noDiv p f (d + 1)
theorem noDiv_spec (p : Nat) : ∀ f d, noDiv p f d = true → ∀ e, d ≤ e → e < d + f → p % e ≠ 0
  | 0, _, _, e, h1, h2 => by omega
  | f + 1, d, h, e, h1, h2 => by
    simp only [noDiv, Bool.and_eq_true, bne_iff_ne] at h
    by_cases he : e = d
    · subst he; exact h.1
    · exact noDiv_spec p f (d + 1) h.2 e (by omega) (by omega)
theorem prime_of {p : Nat} (hp : 2 ≤ p) (b : Nat) (hb : p < b * b) (h : noDiv p b 2 = true) : IsPrime p := by
  refine ⟨hp, fun d hd => ?_⟩
  obtain ⟨e, he⟩ := hd
  have hs := noDiv_spec p b 2 h
  have hd0 : 0 < d := Nat.pos_of_ne_zero (by rintro rfl; omega)
  have he0 : 0 < e := Nat.pos_of_ne_zero (by rintro rfl; omega)
  by_cases hdb : d < b
  · by_cases hd1 : d = 1
    · exact .inl hd1
    · exact absurd (by rw [he]; exact Nat.mul_mod_right d e) (hs d (by omega) (by omega))
  · by_cases heb : e < b
    · by_cases he1 : e = 1
      · right; rw [he, he1, Nat.mul_one]
      · exact absurd (by rw [he]; exact Nat.mul_mod_left d e) (hs e (by omega) (by omega))
    · have := Nat.mul_le_mul (Nat.le_of_not_lt hdb) (Nat.le_of_not_lt heb)
      omega

def p1 : Nat := 2147483647
def p2 : Nat := 2147483629
def p3 : Nat := 2147483587
theorem p1_prime : IsPrime p1 := prime_of (by decide) 46341 (by decide) (by decide +kernel)
theorem p2_prime : IsPrime p2 := prime_of (by decide) 46341 (by decide) (by decide +kernel)
theorem p3_prime : IsPrime p3 := prime_of (by decide) 46341 (by decide) (by decide +kernel)

theorem mod_iff_dvd {p a b : Nat} (h : a ≤ b) : a % p = b % p ↔ p ∣ b - a := by
  constructor
  · intro h'
    exact Nat.dvd_of_mod_eq_zero (Nat.sub_mod_eq_zero_of_mod_eq h'.symm)
  · rintro ⟨k, hk⟩
    have : b = a + p * k := by omega
    rw [this, Nat.add_mul_mod_self_left]

section
variable {p : Nat}
theorem coprime_of (hp : IsPrime p) {a : Nat} (h : ¬ p ∣ a) : Nat.Coprime p a := by
  rcases hp.2 _ (Nat.gcd_dvd_left p a) with h1 | h1
  · exact h1
  · exact absurd (h1 ▸ Nat.gcd_dvd_right p a) h
theorem prime_dvd_mul (hp : IsPrime p) {a b : Nat} (h : p ∣ a * b) : p ∣ a ∨ p ∣ b := by
  by_cases ha : p ∣ a
  · exact .inl ha
  · exact .inr ((coprime_of hp ha).dvd_of_dvd_mul_left h)
theorem primeLike (hp : IsPrime p) : PrimeLike (p : Int) := fun a b h => by
  have h1 : p ∣ a.natAbs * b.natAbs := by
    rw [← Int.natAbs_mul]
    exact Int.ofNat_dvd_left.1 h
  rcases prime_dvd_mul hp h1 with h2 | h2
  · exact .inl (Int.ofNat_dvd_left.2 h2)
  · exact .inr (Int.ofNat_dvd_left.2 h2)

def prodL (l : List Nat) : Nat := match l with | [] => 1 | x :: l => x * prodL l
theorem prodL_perm {l m : List Nat} (h : l.Perm m) : prodL l = prodL m := by
  induction h with
  | nil => rfl
  | cons x _ ih => simp only [prodL, ih]
  | swap x y l => simp only [prodL, Nat.mul_left_comm]
  | trans _ _ h1 h2 => exact h1.trans h2
theorem prodL_mul (a : Nat) (l : List Nat) : prodL (l.map fun x => a * x) = a ^ l.length * prodL l := by
  induction l with
  | nil => simp [prodL]
  | cons x l ih =>
    simp only [List.map_cons, prodL, ih, List.length_cons, Nat.pow_succ]
    rw [Nat.mul_mul_mul_comm, Nat.mul_comm a (a ^ _)]
theorem prodL_mod (p : Nat) (l : List Nat) : prodL (l.map fun x => x % p) % p = prodL l % p := by
  induction l with
  | nil => rfl
  | cons x l ih =>
    simp only [List.map_cons, prodL]
    rw [Nat.mul_mod, Nat.mod_mod, ih, ← Nat.mul_mod]
theorem prodL_not (hp : IsPrime p) {l : List Nat} (h : ∀ x ∈ l, ¬ p ∣ x) : ¬ p ∣ prodL l := by
  induction l with
  | nil => intro h'; have := Nat.le_of_dvd (by decide) h'; have := hp.1; simp [prodL] at *; omega
  | cons x l ih =>
    intro h'
    rcases prime_dvd_mul hp h' with h1 | h1
    · exact h x (by simp) h1
    · exact ih (fun y hy => h y (by simp [hy])) h1

/-- A list without doubles, as long as one that holds it, is a permutation of it. -/
theorem perm_of_subset : ∀ {l m : List Nat}, l.Nodup → (∀ x ∈ l, x ∈ m) → m.length ≤ l.length → l.Perm m
  | [], m, _, _, h => by
    have : m = [] := List.eq_nil_of_length_eq_zero (by simpa using h)
    subst this; exact List.Perm.nil
  | x :: l, m, hn, hs, h => by
    obtain ⟨m1, m2, rfl⟩ := List.append_of_mem (hs x (by simp))
    rw [List.nodup_cons] at hn
    have := perm_of_subset (l := l) (m := m1 ++ m2) hn.2 (fun y hy => by
      have h1 := hs y (by simp [hy])
      have hne : y ≠ x := fun e => hn.1 (e ▸ hy)
      simp only [List.mem_append, List.mem_cons] at h1 ⊢
      rcases h1 with h1 | h1 | h1
      · exact .inl h1
      · exact absurd h1 hne
      · exact .inr h1) (by simp at h ⊢; omega)
    exact (List.Perm.cons x this).trans List.perm_middle.symm

theorem fermat (hp : IsPrime p) {a : Nat} (ha : ¬ p ∣ a) : a ^ (p - 1) % p = 1 := by
  have h2 := hp.1
  let l := (List.range (p - 1)).map fun x => x + 1
  have hl : l.length = p - 1 := by simp [l]
  have hmem : ∀ x, x ∈ l ↔ 1 ≤ x ∧ x < p := fun x => by
    simp only [l, List.mem_map, List.mem_range]
    constructor
    · rintro ⟨y, hy, rfl⟩; omega
    · intro h; exact ⟨x - 1, by omega, by omega⟩
  have hnd : l.Nodup := by
    simp only [l]
    rw [List.nodup_iff_pairwise_ne] at *
    refine List.Pairwise.map _ (fun a b h => ?_) (List.nodup_iff_pairwise_ne.1 List.nodup_range)
    omega
  have hnot : ∀ x ∈ l, ¬ p ∣ x := fun x hx h => by
    have := (hmem x).1 hx
    have := Nat.le_of_dvd (by omega) h
    omega
  let l' := (l.map fun x => a * x).map fun x => x % p
  have hl' : l' = l.map fun x => a * x % p := by simp [l', List.map_map, Function.comp_def]
  have hperm : l'.Perm l := by
    refine perm_of_subset ?_ (fun x hx => ?_) (by simp [l'])
    · rw [hl', List.nodup_iff_pairwise_ne]
      refine List.Pairwise.imp_of_mem (R := fun x y => x ≠ y) ?_ ?_ |> id
      · exact fun _ _ h => h
      · rw [List.pairwise_map]
        refine List.Pairwise.imp_of_mem (fun {x y} hx hy hne h => hne ?_) (List.nodup_iff_pairwise_ne.1 hnd)
        have hx' := (hmem x).1 hx
        have hy' := (hmem y).1 hy
        rcases Nat.le_total x y with hxy | hxy
        · have h1 : p ∣ a * y - a * x := (mod_iff_dvd (Nat.mul_le_mul_left a hxy)).1 h
          rw [← Nat.mul_sub] at h1
          rcases prime_dvd_mul hp h1 with h1 | h1
          · exact absurd h1 ha
          · rcases Nat.eq_zero_or_pos (y - x) with h0 | h0
            · omega
            · have := Nat.le_of_dvd h0 h1; omega
        · have h1 : p ∣ a * x - a * y := (mod_iff_dvd (Nat.mul_le_mul_left a hxy)).1 h.symm
          rw [← Nat.mul_sub] at h1
          rcases prime_dvd_mul hp h1 with h1 | h1
          · exact absurd h1 ha
          · rcases Nat.eq_zero_or_pos (x - y) with h0 | h0
            · omega
            · have := Nat.le_of_dvd h0 h1; omega
    · rw [hl', List.mem_map] at hx
      obtain ⟨y, hy, rfl⟩ := hx
      refine (hmem _).2 ⟨?_, Nat.mod_lt _ (by omega)⟩
      rcases Nat.eq_zero_or_pos (a * y % p) with h0 | h0
      · rcases prime_dvd_mul hp (Nat.dvd_of_mod_eq_zero h0) with h1 | h1
        · exact absurd h1 ha
        · exact absurd h1 (hnot y hy)
      · exact h0
  have h3 : prodL l' % p = prodL l % p := by rw [prodL_perm hperm]
  have h4 : prodL l' % p = (a ^ (p - 1) * prodL l) % p := by
    show prodL ((l.map fun x => a * x).map fun x => x % p) % p = _
    rw [prodL_mod, prodL_mul, hl]
  have hcop : Nat.Coprime p (prodL l) := coprime_of hp (prodL_not hp hnot)
  have hpow : 1 ≤ a ^ (p - 1) := Nat.pow_pos (Nat.pos_of_ne_zero (by rintro rfl; exact ha (Nat.dvd_zero p)))
  have h5 : p ∣ a ^ (p - 1) * prodL l - 1 * prodL l := (mod_iff_dvd (Nat.mul_le_mul_right _ hpow)).1 (by
    show 1 * prodL l % p = _
    rw [Nat.one_mul, ← h3, h4])
  rw [← Nat.sub_mul] at h5
  have h6 := hcop.dvd_of_dvd_mul_right h5
  have h7 : 1 % p = a ^ (p - 1) % p := (mod_iff_dvd hpow).2 h6
  rw [← h7, Nat.mod_eq_of_lt (by omega)]
end
end Go.Proofs.Ytbclbcldplmppaa

/- The rank of a list of rows, over the whole numbers and modulo three primes. Plain Lean. -/
namespace Go.Proofs.Ytbclbcldplmppaa

structure RankIs (A : List (Nat → Int)) (n k : Nat) : Prop where
  ex : ∃ V R, (∀ v ∈ V, v ∈ A) ∧ V.length = k ∧ R.length = k ∧ (∀ r ∈ R, r < n) ∧ D V R ≠ 0
  no : ∀ V R, (∀ v ∈ V, v ∈ A) → k < V.length → (∀ r ∈ R, r < n) → D V R = 0

theorem RankIs.unique {A : List (Nat → Int)} {n k l : Nat} (h : RankIs A n k) (h' : RankIs A n l) : k = l := by
  rcases Nat.lt_trichotomy k l with hl | hl | hl
  · obtain ⟨V, R, h1, h2, _, h4, h5⟩ := h'.ex
    exact absurd (h.no V R h1 (by omega) h4) h5
  · exact hl
  · obtain ⟨V, R, h1, h2, _, h4, h5⟩ := h.ex
    exact absurd (h'.no V R h1 (by omega) h4) h5

/-- A family of vectors, and what it spans modulo m, at the first n indices. -/
def InSpan (m : Int) (n cnt : Nat) (Y : Nat → Nat → Int) (v : Nat → Int) : Prop := ∃ c : Nat → Int, ∀ j, j < n → m ∣ v j - S (List.range cnt) fun k => c k * Y k j

section
variable {m : Int} {n cnt : Nat} {Y : Nat → Nat → Int}
theorem S_single {l : List Nat} (hn : l.Nodup) {x : Nat} (hx : x ∈ l) (f : Nat → Int) : (S l fun k => if k = x then f k else 0) = f x := by
  induction l with
  | nil => cases hx
  | cons y l ih =>
    rw [List.nodup_cons] at hn
    rw [S_cons]
    by_cases h : y = x
    · subst h
      rw [if_pos rfl, S_zero fun z hz => if_neg (fun (e : z = y) => hn.1 (e ▸ hz)), Int.add_zero]
    · rw [if_neg h, ih hn.2 (by rcases List.mem_cons.1 hx with e | e; exact absurd e.symm h; exact e), Int.zero_add]
theorem InSpan.mem {k : Nat} (hk : k < cnt) : InSpan m n cnt Y (Y k) := ⟨fun x => if x = k then 1 else 0, fun j _ => by
  have : (S (List.range cnt) fun x => (if x = k then 1 else 0) * Y x j) = Y k j := by
    rw [← S_single List.nodup_range (List.mem_range.2 hk) (fun x => Y x j)]
    exact S_congr fun x _ => by split <;> simp
  rw [this, Int.sub_self]; exact Int.dvd_zero _⟩
theorem InSpan.congr {v u : Nat → Int} (h : InSpan m n cnt Y v) (he : ∀ j, j < n → m ∣ u j - v j) : InSpan m n cnt Y u := by
  obtain ⟨c, hc⟩ := h
  refine ⟨c, fun j hj => ?_⟩
  have := Int.dvd_add (he j hj) (hc j hj)
  rwa [show u j - v j + (v j - S (List.range cnt) fun k => c k * Y k j) = u j - S (List.range cnt) fun k => c k * Y k j by omega] at this
theorem InSpan.comb {v u : Nat → Int} (h : InSpan m n cnt Y v) (h' : InSpan m n cnt Y u) (a b : Int) : InSpan m n cnt Y (fun j => a * v j + b * u j) := by
  obtain ⟨c, hc⟩ := h
  obtain ⟨e, he⟩ := h'
  refine ⟨fun k => a * c k + b * e k, fun j hj => ?_⟩
  have h1 : S (List.range cnt) (fun k => (a * c k + b * e k) * Y k j) = a * S (List.range cnt) (fun k => c k * Y k j) + b * S (List.range cnt) (fun k => e k * Y k j) := by
    rw [← S_mul, ← S_mul, ← S_add]
    exact S_congr fun k _ => by rw [Int.add_mul, Int.mul_assoc, Int.mul_assoc]
  rw [h1]
  have h2 := Int.dvd_add (Int.dvd_trans (hc j hj) (Int.dvd_mul_left a _)) (Int.dvd_trans (he j hj) (Int.dvd_mul_left b _))
  rw [Int.mul_sub, Int.mul_sub] at h2
  rwa [show a * v j - a * S (List.range cnt) (fun k => c k * Y k j) + (b * u j - b * S (List.range cnt) fun k => e k * Y k j) = a * v j + b * u j - (a * S (List.range cnt) (fun k => c k * Y k j) + b * S (List.range cnt) fun k => e k * Y k j) by omega] at h2
theorem InSpan.zero : InSpan m n cnt Y (fun _ => 0) := ⟨fun _ => 0, fun j _ => by rw [S_zero fun _ _ => Int.zero_mul _, Int.sub_self]; exact Int.dvd_zero _⟩
theorem InSpan.sum {α : Type} {u : α → Nat → Int} (c : α → Int) : ∀ (l : List α), (∀ x ∈ l, InSpan m n cnt Y (u x)) → InSpan m n cnt Y (fun j => S l fun x => c x * u x j)
  | [], _ => InSpan.zero
  | x :: l, h => by
    have h1 := InSpan.comb (h x (by simp)) (InSpan.sum c l fun y hy => h y (by simp [hy])) (c x) 1
    refine h1.congr fun j _ => ?_
    simp only [S_cons, Int.one_mul, Int.sub_self]
    exact Int.dvd_zero _
/-- What a family spans is spanned by whatever spans the family. -/
theorem InSpan.trans {cnt' : Nat} {Y' : Nat → Nat → Int} {v : Nat → Int} (h : InSpan m n cnt Y v) (hY : ∀ k, k < cnt → InSpan m n cnt' Y' (Y k)) : InSpan m n cnt' Y' v := by
  obtain ⟨c, hc⟩ := h
  exact (InSpan.sum (u := Y) c (List.range cnt) fun k hk => hY k (List.mem_range.1 hk)).congr hc
end

/-- A family as a list. -/
def fam (cnt : Nat) (Y : Nat → Nat → Int) : List (Nat → Int) := (List.range cnt).map Y
theorem fam_length (cnt : Nat) (Y : Nat → Nat → Int) : (fam cnt Y).length = cnt := by simp [fam]
theorem fam_get (cnt : Nat) (Y : Nat → Nat → Int) (k : Nat) (h : k < cnt) : (fam cnt Y).getD k (fun _ => 0) = Y k := by simp [fam, List.getD, h]
theorem fam_mem {cnt : Nat} {Y : Nat → Nat → Int} {v : Nat → Int} : v ∈ fam cnt Y ↔ ∃ k, k < cnt ∧ Y k = v := by simp [fam]
theorem S_fam (cnt : Nat) (Y : Nat → Nat → Int) (c : Nat → Int) (j : Nat) : (S (List.range (fam cnt Y).length) fun k => c k * (fam cnt Y).getD k (fun _ => 0) j) = S (List.range cnt) fun k => c k * Y k j := by
  rw [fam_length]
  exact S_congr fun k hk => by rw [fam_get cnt Y k (List.mem_range.1 hk)]

theorem D_span_fam {m : Int} (hm : PrimeLike m) {n cnt : Nat} {Y : Nat → Nat → Int} (X : List (Nat → Int)) (R : List Nat) (hR : ∀ r ∈ R, r < n) (hX : ∀ x ∈ X, ∃ d : Int, ¬ m ∣ d ∧ InSpan m n cnt Y (fun j => d * x j)) (hl : cnt < X.length) : m ∣ D X R := by
  refine D_span_mod hm (fam cnt Y) X R (fun x hx => ?_) (by rw [fam_length]; exact hl)
  obtain ⟨d, hd, c, hc⟩ := hX x hx
  exact ⟨d, hd, c, fun r hr => by rw [S_fam]; exact hc r (hR r hr)⟩
theorem D_combo_fam {m : Int} (hm : PrimeLike m) (h1 : ¬ m ∣ 1) {n cnt : Nat} {Y : Nat → Nat → Int} (X : List (Nat → Int)) (R : List Nat) (hR : ∀ r ∈ R, r < n) (hX : ∀ x ∈ X, InSpan m n cnt Y x)
    (h : ¬ m ∣ D X R) : ∃ V : List (Nat → Int), (∀ v ∈ V, v ∈ fam cnt Y) ∧ V.length = X.length ∧ ¬ m ∣ D V R := by
  rcases Classical.em (∃ V : List (Nat → Int), (∀ v ∈ V, v ∈ fam cnt Y) ∧ V.length = X.length ∧ ¬ m ∣ D V R) with hh | hh
  · exact hh
  · refine absurd ?_ h
    have := D_combo_mod hm (fam cnt Y) X [] R (fun x hx => ?_) (by simp) (fun V hV hl => ?_)
    · simpa using this
    · obtain ⟨c, hc⟩ := hX x hx
      exact ⟨1, h1, c, fun r hr => by rw [S_fam, Int.one_mul]; exact hc r (hR r hr)⟩
    · rcases Classical.em (m ∣ D V R) with h2 | h2
      · exact h2
      · exact absurd ⟨V, hV, by simpa using hl, h2⟩ hh

theorem zero_not_one : ¬ (0 : Int) ∣ 1 := by rw [Int.zero_dvd]; decide

/-- A basis: k vectors with a determinant that is not 0, in the rows' span, each row (times a number) in theirs. -/
theorem rank_basis {n a k : Nat} {A Y : Nat → Nat → Int} (R : List Nat) (hR : ∀ r ∈ R, r < n) (hRl : R.length = k) (hD : D (fam k Y) R ≠ 0) (hY : ∀ i, i < k → InSpan 0 n a A (Y i)) {d : Int} (hd : d ≠ 0)
    (hA : ∀ x, x < a → InSpan 0 n k Y (fun j => d * A x j)) : RankIs (fam a A) n k := by
  constructor
  · obtain ⟨V, h1, h2, h3⟩ := D_combo_fam primeLike_zero zero_not_one (n := n) (cnt := a) (Y := A) (fam k Y) R hR (fun x hx => by
      obtain ⟨i, hi, rfl⟩ := fam_mem.1 hx
      exact hY i hi) (by rw [Int.zero_dvd]; exact hD)
    rw [fam_length] at h2
    rw [Int.zero_dvd] at h3
    exact ⟨V, R, h1, h2, hRl, hR, h3⟩
  · intro V R' hV hl hR'
    have := D_span_fam primeLike_zero (n := n) (cnt := k) (Y := Y) V R' hR' (fun x hx => by
      obtain ⟨i, hi, rfl⟩ := fam_mem.1 (hV x hx)
      exact ⟨d, by rw [Int.zero_dvd]; exact hd, hA i hi⟩) hl
    rwa [Int.zero_dvd] at this

/-- A rank is at most the number of columns. -/
theorem RankIs.le {A : List (Nat → Int)} {n k : Nat} (h : RankIs A n k) : k ≤ n := by
  rcases Nat.lt_or_ge n k with hl | hl
  · obtain ⟨V, R, h1, h2, _, h4, h5⟩ := h.ex
    have := D_span_fam primeLike_zero (n := n) (cnt := n) (Y := fun i j => if j = i then 1 else 0) V R h4 (fun x _ => ⟨1, by rw [Int.zero_dvd]; decide, fun i => x i, fun j hj => by
      have e : (S (List.range n) fun k => x k * if j = k then 1 else 0) = x j := by
        rw [← S_single List.nodup_range (List.mem_range.2 hj) x]
        exact S_congr fun k _ => by
          by_cases e : k = j
          · subst e; simp
          · rw [if_neg (fun e' => e e'.symm), if_neg e, Int.mul_zero]
      show (0 : Int) ∣ 1 * x j - _
      rw [e, Int.one_mul, Int.sub_self]; exact Int.dvd_zero _⟩) (by omega)
    rw [Int.zero_dvd] at this
    exact absurd this h5
  · exact hl

/-! ### Elimination modulo p -/

/-- The state: rows M (cnt of them) that span what the rows A span; the pivots' columns; all columns up to 'done' are 0 behind the pivots. -/
structure Ech (p : Int) (n a : Nat) (A M : Nat → Nat → Int) (piv : List Nat) (done : Nat) : Prop where
  fwd : ∀ x, x < a → InSpan p n a A (M x)
  bwd : ∀ x, x < a → InSpan p n a M (A x)
  le : piv.length ≤ a
  tri : ∀ l (hl : l < piv.length), piv[l] < n ∧ ¬ p ∣ M l piv[l] ∧ ∀ x, l < x → x < a → p ∣ M x piv[l]
  zero : ∀ x, piv.length ≤ x → x < a → ∀ j, j < done → p ∣ M x j

section
variable {p : Int} {n a done : Nat} {A M M' : Nat → Nat → Int} {piv : List Nat}
theorem Ech.init (h : ∀ x, x < a → ∀ j, j < n → p ∣ M x j - A x j) : Ech p n a A M [] 0 :=
  ⟨fun x hx => (InSpan.mem hx).congr (h x hx), fun x hx => (InSpan.mem hx).congr fun j hj => by have := h x hx j hj; rw [← Int.dvd_neg] at this; rwa [Int.neg_sub] at this, by simp, fun l hl => by simp at hl, fun x _ _ j hj => by omega⟩
theorem Ech.skip (h : Ech p n a A M piv done) (h0 : ∀ x, piv.length ≤ x → x < a → p ∣ M x done) : Ech p n a A M piv (done + 1) :=
  ⟨h.fwd, h.bwd, h.le, h.tri, fun x h1 h2 j hj => by
    by_cases e : j = done
    · subst e; exact h0 x h1 h2
    · exact h.zero x h1 h2 j (by omega)⟩
/-- Rows behind the pivots exchanged. -/
theorem Ech.swap (h : Ech p n a A M piv done) {r s : Nat} (hr : piv.length ≤ r) (hr2 : r < a) (hs : piv.length ≤ s) (hs2 : s < a) (h1 : M' r = M s) (h2 : M' s = M r) (h3 : ∀ x, x ≠ r → x ≠ s → M' x = M x) : Ech p n a A M' piv done := by
  have key : ∀ x, x < a → ∃ y, y < a ∧ M' x = M y ∧ (piv.length ≤ x → piv.length ≤ y) ∧ (x < piv.length → y = x) := fun x hx => by
    by_cases e1 : x = r
    · exact ⟨s, hs2, by rw [e1]; exact h1, fun _ => hs, fun h => by omega⟩
    · by_cases e2 : x = s
      · exact ⟨r, hr2, by rw [e2]; exact h2, fun _ => hr, fun h => by omega⟩
      · exact ⟨x, hx, h3 x e1 e2, fun h => h, fun _ => rfl⟩
  have yek : ∀ y, y < a → ∃ x, x < a ∧ M y = M' x := fun y hy => by
    by_cases e1 : y = r
    · exact ⟨s, hs2, by rw [e1]; exact h2.symm⟩
    · by_cases e2 : y = s
      · exact ⟨r, hr2, by rw [e2]; exact h1.symm⟩
      · exact ⟨y, hy, (h3 y e1 e2).symm⟩
  refine ⟨fun x hx => ?_, fun x hx => (h.bwd x hx).trans fun y hy => ?_, h.le, fun l hl => ?_, fun x hx1 hx2 j hj => ?_⟩
  · obtain ⟨y, hy, e, _⟩ := key x hx
    rw [e]; exact h.fwd y hy
  · obtain ⟨x', hx', e⟩ := yek y hy
    rw [e]; exact InSpan.mem hx'
  · obtain ⟨t1, t2, t3⟩ := h.tri l hl
    have hl' : M' l = M l := h3 l (by omega) (by omega)
    refine ⟨t1, by rw [hl']; exact t2, fun x hx1 hx2 => ?_⟩
    obtain ⟨y, hy, e, hge, hlt⟩ := key x hx2
    rw [e]
    refine t3 y ?_ hy
    by_cases hxl : x < piv.length
    · rw [hlt hxl]; exact hx1
    · have := hge (by omega); omega
  · obtain ⟨y, hy, e, hge, _⟩ := key x hx2
    rw [e]; exact h.zero y (hge hx1) hy j hj
/-- A pivot in the row behind the pivots: the rows behind it lose their entries in its column. -/
theorem Ech.pivot (h : Ech p n a A M piv done) (hr : piv.length < a) (hd : done < n) (hp : ¬ p ∣ M piv.length done) (h1 : ∀ x, x ≤ piv.length → M' x = M x)
    (h2 : ∀ x, piv.length < x → x < a → (∃ t : Int, ∀ j, j < n → p ∣ M' x j - (M x j - t * M piv.length j)) ∧ p ∣ M' x done) : Ech p n a A M' (piv ++ [done]) (done + 1) := by
  have e0 : M' piv.length = M piv.length := h1 _ (Nat.le_refl _)
  refine ⟨fun x hx => ?_, fun x hx => (h.bwd x hx).trans fun y hy => ?_, by simp; omega, fun l hl => ?_, fun x hx1 hx2 j hj => ?_⟩
  · by_cases hx' : x ≤ piv.length
    · rw [h1 x hx']; exact h.fwd x hx
    · obtain ⟨⟨t, ht⟩, _⟩ := h2 x (by omega) hx
      refine ((h.fwd x hx).comb (h.fwd piv.length hr) 1 (-t)).congr fun j hj => ?_
      have := ht j hj
      rwa [show (1 : Int) * M x j + -t * M piv.length j = M x j - t * M piv.length j by rw [Int.one_mul, Int.neg_mul]; omega]
  · by_cases hy' : y ≤ piv.length
    · rw [← h1 y hy']; exact InSpan.mem hy
    · obtain ⟨⟨t, ht⟩, _⟩ := h2 y (by omega) hy
      refine ((InSpan.mem (Y := M') hy).comb (InSpan.mem (Y := M') hr) 1 t).congr fun j hj => ?_
      have := ht j hj
      rw [← Int.dvd_neg] at this
      rwa [e0, show -(M' y j - (M y j - t * M piv.length j)) = M y j - (1 * M' y j + t * M piv.length j) by rw [Int.one_mul]; omega] at *
  · by_cases hl' : l < piv.length
    · obtain ⟨t1, t2, t3⟩ := h.tri l hl'
      rw [List.getElem_append_left hl']
      refine ⟨t1, by rw [h1 l (by omega)]; exact t2, fun x hx1 hx2 => ?_⟩
      by_cases hx' : x ≤ piv.length
      · rw [h1 x hx']; exact t3 x hx1 hx2
      · obtain ⟨⟨t, ht⟩, _⟩ := h2 x (by omega) hx2
        have d1 := ht _ t1
        have d2 := t3 x hx1 hx2
        have d3 := Int.dvd_trans (t3 piv.length hl' hr) (Int.dvd_mul_left t _)
        have := Int.dvd_add d1 (Int.dvd_sub d2 d3)
        rwa [Int.sub_add_cancel] at this
    · have hl2 : l = piv.length := by simp at hl; omega
      subst hl2
      simp only [List.getElem_concat_length]
      exact ⟨hd, by rw [e0]; exact hp, fun x hx1 hx2 => (h2 x hx1 hx2).2⟩
  · simp only [List.length_append, List.length_singleton] at hx1
    by_cases e : j = done
    · subst e; exact (h2 x (by omega) hx2).2
    · obtain ⟨⟨t, ht⟩, _⟩ := h2 x (by omega) hx2
      by_cases hjn : j < n
      · have d1 := ht j hjn
        have d2 := h.zero x (by omega) hx2 j (by omega)
        have d3 := Int.dvd_trans (h.zero piv.length (Nat.le_refl _) hr j (by omega)) (Int.dvd_mul_left t _)
        have := Int.dvd_add d1 (Int.dvd_sub d2 d3)
        rwa [Int.sub_add_cancel] at this
      · omega

/-- The triangle's determinant is not 0. -/
theorem tri_ne (hm : PrimeLike p) (h1 : ¬ p ∣ 1) : ∀ (l : List Nat) (k : Nat) (M : Nat → Nat → Int), (∀ i (hi : i < l.length), ¬ p ∣ M (k + i) l[i] ∧ ∀ x, i < x → x < l.length → p ∣ M (k + x) l[i]) →
    ¬ p ∣ D ((List.range l.length).map fun i => M (k + i)) l
  | [], _, _, _ => by simpa [D] using h1
  | c :: l, k, M, h => by
    -- make the column exactly 0 below
    have hz : p ∣ D ((List.range (c :: l).length).map fun i => M (k + i)) (c :: l) - D ((List.range (c :: l).length).map fun i => fun j => if 0 < i ∧ j = c then 0 else M (k + i) j) (c :: l) := by
      refine D_dvd _ _ _ (by simp) fun i h1 h2 r hr => ?_
      simp only [List.getElem_map, List.getElem_range]
      by_cases e : 0 < i ∧ r = c
      · rw [if_pos e, Int.sub_zero, e.2]
        exact (h 0 (by simp)).2 i e.1 (by simpa using h1)
      · rw [if_neg e, Int.sub_self]; exact Int.dvd_zero _
    have hsplit : (List.range (c :: l).length).map (fun i => fun j => if 0 < i ∧ j = c then 0 else M (k + i) j) = (fun j => M k j) :: (List.range l.length).map (fun i => fun j => if j = c then 0 else M (k + 1 + i) j) := by
      rw [List.length_cons, List.range_succ_eq_map, List.map_cons, List.map_map]
      congr 1
      refine List.map_congr_left fun i _ => ?_
      funext j
      simp [show k + (i + 1) = k + 1 + i by omega]
    rw [hsplit, D_tri _ _ c l (by simp) (fun u hu => by
      obtain ⟨i, _, rfl⟩ := List.mem_map.1 hu
      simp)] at hz
    have ih := tri_ne hm h1 l (k + 1) (fun x j => if j = c then 0 else M x j)
    -- on the rest: either its columns differ from c, or ..
    intro hdvd
    have h2 : p ∣ M k c * D ((List.range l.length).map fun i => fun j => if j = c then 0 else M (k + 1 + i) j) l := by
      have := Int.dvd_sub hdvd hz
      rwa [show ∀ x y : Int, x - (x - y) = y from fun x y => by omega] at this
    rcases hm _ _ h2 with h3 | h3
    · exact (h 0 (by simp)).1 (by simpa using h3)
    · refine ih (fun i hi => ⟨?_, fun x hx1 hx2 => ?_⟩) h3
      · have := (h (i + 1) (by simpa using hi))
        have hne : l[i] ≠ c := fun e => this.1 (by
          have := (h 0 (by simp)).2 (i + 1) (by omega) (by simpa using hi)
          simpa [e] using this)
        rw [if_neg hne]
        have := this.1
        simpa [show k + (i + 1) = k + 1 + i by omega] using this
      · split
        · exact Int.dvd_zero _
        · have := (h (i + 1) (by simpa using hi)).2 (x + 1) (by omega) (by simpa using hx2)
          simpa [show k + (x + 1) = k + 1 + x by omega] using this

theorem Ech.rank_le (h : Ech p n a A M piv done) (hm : PrimeLike p) (h1 : ¬ p ∣ 1) {k : Nat} (hk : RankIs (fam a A) n k) : piv.length ≤ k := by
  rcases Nat.lt_or_ge k piv.length with hl | hl
  · have hne := tri_ne hm h1 piv 0 M (fun i hi => by
      obtain ⟨t1, t2, t3⟩ := h.tri i hi
      have := h.le
      exact ⟨by simpa using t2, fun x hx1 hx2 => by simpa using t3 x hx1 (by omega)⟩)
    have hR : ∀ r ∈ piv, r < n := fun r hr => by
      obtain ⟨i, hi, rfl⟩ := List.getElem_of_mem hr
      exact (h.tri i hi).1
    obtain ⟨V, v1, v2, v3⟩ := D_combo_fam hm h1 (n := n) (cnt := a) (Y := A) _ piv hR (fun x hx => by
      obtain ⟨i, hi, rfl⟩ := List.mem_map.1 hx
      have := h.le
      exact h.fwd (0 + i) (by simp at hi; omega)) hne
    rw [hk.no V piv v1 (by rw [v2]; simp; exact hl) hR] at v3
    exact absurd (Int.dvd_zero p) v3
  · exact hl
theorem Ech.rank_ge (h : Ech p n a A M piv n) (hm : PrimeLike p) (h1 : ¬ p ∣ 1) {V : List (Nat → Int)} {R : List Nat} (hV : ∀ v ∈ V, v ∈ fam a A) (hR : ∀ r ∈ R, r < n) (hne : ¬ p ∣ D V R) : V.length ≤ piv.length := by
  rcases Nat.lt_or_ge piv.length V.length with hl | hl
  · refine absurd ?_ hne
    refine D_span_fam hm (n := n) (cnt := piv.length) (Y := M) V R hR (fun x hx => ?_) hl
    obtain ⟨i, hi, rfl⟩ := fam_mem.1 (hV x hx)
    refine ⟨1, h1, ?_⟩
    have h2 : InSpan p n piv.length M (A i) := (h.bwd i hi).trans fun y hy => by
      by_cases hy' : y < piv.length
      · exact InSpan.mem hy'
      · exact InSpan.zero.congr fun j hj => by rw [Int.sub_zero]; exact h.zero y (by omega) hy j hj
    exact h2.congr fun j _ => by rw [Int.one_mul, Int.sub_self]; exact Int.dvd_zero _
  · exact hl
end

/-- Three primes are enough for determinants of at most 8 rows with entries up to 48. -/
theorem three {V : List (Nat → Int)} {R : List Nat} (hl : V.length = R.length) (h8 : V.length ≤ 8) (hb : ∀ v ∈ V, ∀ r ∈ R, (v r).natAbs ≤ 48) (hne : D V R ≠ 0) : ¬ (p1 : Int) ∣ D V R ∨ ¬ (p2 : Int) ∣ D V R ∨ ¬ (p3 : Int) ∣ D V R := by
  rcases Classical.em (¬ (p1 : Int) ∣ D V R ∨ ¬ (p2 : Int) ∣ D V R ∨ ¬ (p3 : Int) ∣ D V R) with h | h
  · exact h
  · exfalso
    have h1 : p1 ∣ (D V R).natAbs := Int.ofNat_dvd_left.1 (Classical.byContradiction fun hh => h (.inl hh))
    have h2 : p2 ∣ (D V R).natAbs := Int.ofNat_dvd_left.1 (Classical.byContradiction fun hh => h (.inr (.inl hh)))
    have h3 : p3 ∣ (D V R).natAbs := Int.ofNat_dvd_left.1 (Classical.byContradiction fun hh => h (.inr (.inr hh)))
    have c12 : Nat.Coprime p1 p2 := by decide +kernel
    have c123 : Nat.Coprime (p1 * p2) p3 := by decide +kernel
    have h4 := c123.mul_dvd_of_dvd_of_dvd (c12.mul_dvd_of_dvd_of_dvd h1 h2) h3
    have h5 := Nat.le_of_dvd (Nat.pos_of_ne_zero (by simpa using hne)) h4
    have h6 := (D_bound V R).resolve_right (by simpa using hl)
    have h7 : P' R (fun r => S V fun v => ((v r).natAbs : Int)) ≤ (384 : Int) ^ R.length := P_const fun r hr => ⟨S_abs_nonneg V r, by
      have : ∀ W : List (Nat → Int), (∀ v ∈ W, v ∈ V) → (S W fun v => ((v r).natAbs : Int)) ≤ 48 * (W.length : Int) := fun W hW => by
        induction W with
        | nil => simp
        | cons v W ih =>
          have := hb v (hW v (by simp)) r hr
          have := ih fun u hu => hW u (by simp [hu])
          simp only [S_cons, List.length_cons]
          omega
      have := this V fun v hv => hv
      omega⟩
    have h8' : (384 : Int) ^ R.length ≤ 384 ^ 8 := by
      have : R.length ≤ 8 := by omega
      have hn : 384 ^ R.length ≤ 384 ^ 8 := Nat.pow_le_pow_right (by decide) this
      have hc : ∀ k : Nat, ((384 ^ k : Nat) : Int) = (384 : Int) ^ k := fun k => Int.natCast_pow 384 k
      rw [← hc, ← hc]
      exact Int.ofNat_le.2 hn
    have h9 : ((D V R).natAbs : Int) ≤ 384 ^ 8 := Int.le_trans h6 (Int.le_trans h7 h8')
    have h10 : (p1 * p2 * p3 : Nat) > 384 ^ 8 := by decide +kernel
    have h11 : ((p1 * p2 * p3 : Nat) : Int) ≤ 384 ^ 8 := Int.le_trans (Int.ofNat_le.2 h5) h9
    have hc : ((384 ^ 8 : Nat) : Int) = (384 : Int) ^ 8 := Int.natCast_pow 384 8
    rw [← hc] at h11
    exact absurd (Int.ofNat_le.1 h11) (Nat.not_le.2 h10)
end Go.Proofs.Ytbclbcldplmppaa
