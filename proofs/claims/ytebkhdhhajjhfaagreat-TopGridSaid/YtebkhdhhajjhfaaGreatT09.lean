/- solve: the loops over a row's two lines. -/
import Derived.Test.YtebkhdhhajjhfaaGreatT05
import Derived.Test.YtebkhdhhajjhfaaGreatT08
namespace Go.Proofs.YtebkhdhhajjhfaaGreat.Gr
open Go.RowKit


set_option maxRecDepth 1000000 in
set_option maxHeartbeats 4000000 in
theorem loopL {u0 u1 u2 u3 u4 u6 u7 u8 u9 u11 u13 u16 u17 u18 u19 u20 u21 u22 u23 u24 u25 u26 u27 u28 u29 u30 u31 u32 u33 u34 u35 u36 u37 u38 u39 u40 u41 u42 u43 u44 u45 u46 u47 u48 u49 u50 u51 u52 u53 u54 u55 u56 u57 u58 u59 u60 u61 u62 u63 u64 u65 u66 u67 u68 u69 u70 u71 u72 u73 u74 u75 u76 u77 u78 u79 u80 u81 u82 u83 u84 u85 u86 u87 u88 u89 u90 u91 u92 u93 u94 u95 u96 u97 u98 u99 u100 u101 u104 u105 u106 u107 u108 u109 u110 u111 u112 u113 u114 u115 u116 u117 u118 u119 u120 u121 u122 u123 u124 u125 u126 u127 u128 u129 u130 u131 u132 u133 u134 u135 u136 u137 u138 u139 u140 u141 u142 u143 u144 u145 u146 u147 u148 u149 u150 u151 u152 u153 u154 u155 u156 u157 u158 u159 u160 u161 u162 u163 u164 u165 u166 u167 u168 : Value} {b w0 : World} {n m pn q g4 mb g5 bk gv cv x : Nat} {g h : Nat → Nat} {N M : Nat → Nat → Int} {F G : Nat → List Int} {piv : Nat → Int} {p cv0 d : Int} {ord : Value} {cnt : Nat} {D : DataW Unit} {Q : Exit → Act → World → Prop}
    (hn : n ≤ 8) (hm : m ≤ 16) (hqm : q < m) (hpm : pn < m) (hne : pn ≠ q)
    (hstep : ∀ j, j < n → ∀ w' : World, Calls Tryz.prog 84 #[.int .i64 p, .int .i64 (M x j), .int .i64 cv0, .int .i64 (piv j), .int .i64 d] w' fun e w'' => e = .returned (.int .i64 (N x j)) ∧ Ext w' w'')
    (hpiv : ∀ j, j < n → getI (F pn) j = piv j) (hbg : ∀ k, k < m → bk ≠ g k ∧ bk ≠ h k) (hsep : Sep g5 (.slice (some ⟨gv, 0, none⟩) m cv) m g h)
    (hmf : MF b w0 (.slice (some ⟨gv, 0, none⟩) m cv) n m m g h (fun i => if i = q then mixL N M n x 0 else F i) G) (hfr : Fr w0 g4 mb g5 (.slice (some ⟨gv, 0, none⟩) m cv) ord d cnt D) (hbx : Bx w0 bk [sl (g q) n, sl (h q) m])
    (hexit : ∀ (x16 x103 x104 x105 x106 x107 x108 x109 x110 x111 x112 x113 x114 x115 x116 x117 x118 x119 x120 x121 x122 x123 x124 x125 x126 x127 x128 x129 : Value) (w' : World), MF b w' (.slice (some ⟨gv, 0, none⟩) m cv) n m m g h (fun i => if i = q then mixL N M n x n else F i) G → Fr w' g4 mb g5 (.slice (some ⟨gv, 0, none⟩) m cv) ord d cnt D → Bx w' bk [sl (g q) n, sl (h q) m] → Q (.exit 8) ⟨(u0 :: u1 :: u2 :: u3 :: u4 :: (.pointer (some ⟨g5, 0, none⟩)) :: u6 :: u7 :: u8 :: u9 :: (.int .i64 (pn : Int)) :: u11 :: (.int .i64 p) :: u13 :: (.pointer (some ⟨bk, 0, none⟩)) :: (.int .i64 cv0) :: (x16) :: u17 :: u18 :: u19 :: u20 :: u21 :: u22 :: u23 :: u24 :: u25 :: u26 :: u27 :: u28 :: u29 :: u30 :: u31 :: u32 :: u33 :: u34 :: u35 :: u36 :: u37 :: u38 :: u39 :: u40 :: u41 :: u42 :: u43 :: u44 :: u45 :: u46 :: u47 :: u48 :: u49 :: u50 :: u51 :: u52 :: u53 :: u54 :: u55 :: u56 :: u57 :: u58 :: u59 :: u60 :: u61 :: u62 :: u63 :: u64 :: u65 :: u66 :: u67 :: u68 :: u69 :: u70 :: u71 :: u72 :: u73 :: u74 :: u75 :: u76 :: u77 :: u78 :: u79 :: u80 :: u81 :: u82 :: u83 :: u84 :: u85 :: u86 :: u87 :: u88 :: u89 :: u90 :: u91 :: u92 :: u93 :: u94 :: u95 :: u96 :: u97 :: u98 :: u99 :: u100 :: u101 :: (.int .i64 (n : Int)) :: (x103) :: (x104) :: (x105) :: (x106) :: (x107) :: (x108) :: (x109) :: (x110) :: (x111) :: (x112) :: (x113) :: (x114) :: (x115) :: (x116) :: (x117) :: (x118) :: (x119) :: (x120) :: (x121) :: (x122) :: (x123) :: (x124) :: (x125) :: (x126) :: (x127) :: (x128) :: (x129) :: u130 :: u131 :: u132 :: u133 :: u134 :: u135 :: u136 :: u137 :: u138 :: u139 :: u140 :: u141 :: u142 :: u143 :: u144 :: u145 :: u146 :: u147 :: u148 :: u149 :: u150 :: u151 :: u152 :: u153 :: u154 :: u155 :: u156 :: u157 :: u158 :: u159 :: u160 :: u161 :: u162 :: u163 :: u164 :: u165 :: u166 :: u167 :: u168 :: []).toArray, []⟩ w') :
    Code.wp Tryz.prog (Code.loop loop65_8) Q ⟨(u0 :: u1 :: u2 :: u3 :: u4 :: (.pointer (some ⟨g5, 0, none⟩)) :: u6 :: u7 :: u8 :: u9 :: (.int .i64 (pn : Int)) :: u11 :: (.int .i64 p) :: u13 :: (.pointer (some ⟨bk, 0, none⟩)) :: (.int .i64 cv0) :: u16 :: u17 :: u18 :: u19 :: u20 :: u21 :: u22 :: u23 :: u24 :: u25 :: u26 :: u27 :: u28 :: u29 :: u30 :: u31 :: u32 :: u33 :: u34 :: u35 :: u36 :: u37 :: u38 :: u39 :: u40 :: u41 :: u42 :: u43 :: u44 :: u45 :: u46 :: u47 :: u48 :: u49 :: u50 :: u51 :: u52 :: u53 :: u54 :: u55 :: u56 :: u57 :: u58 :: u59 :: u60 :: u61 :: u62 :: u63 :: u64 :: u65 :: u66 :: u67 :: u68 :: u69 :: u70 :: u71 :: u72 :: u73 :: u74 :: u75 :: u76 :: u77 :: u78 :: u79 :: u80 :: u81 :: u82 :: u83 :: u84 :: u85 :: u86 :: u87 :: u88 :: u89 :: u90 :: u91 :: u92 :: u93 :: u94 :: u95 :: u96 :: u97 :: u98 :: u99 :: u100 :: u101 :: (.int .i64 (n : Int)) :: (.int .i64 0) :: u104 :: u105 :: u106 :: u107 :: u108 :: u109 :: u110 :: u111 :: u112 :: u113 :: u114 :: u115 :: u116 :: u117 :: u118 :: u119 :: u120 :: u121 :: u122 :: u123 :: u124 :: u125 :: u126 :: u127 :: u128 :: u129 :: u130 :: u131 :: u132 :: u133 :: u134 :: u135 :: u136 :: u137 :: u138 :: u139 :: u140 :: u141 :: u142 :: u143 :: u144 :: u145 :: u146 :: u147 :: u148 :: u149 :: u150 :: u151 :: u152 :: u153 :: u154 :: u155 :: u156 :: u157 :: u158 :: u159 :: u160 :: u161 :: u162 :: u163 :: u164 :: u165 :: u166 :: u167 :: u168 :: []).toArray, []⟩ w0 := by
  have Hexit := Lib.hid hexit
  have Hstep := Lib.hid hstep
  have Hpiv := Lib.hid hpiv
  have Hbg := Lib.hid hbg
  have Hsep := Lib.hid hsep
  clear hexit hstep hpiv hbg hsep
  conv => arg 2; arg 1; whnf
  go_loopw [103] (fun i wr => ∃ j : Nat, j ≤ n ∧ i = .int .i64 j ∧ MF b wr (.slice (some ⟨gv, 0, none⟩) m cv) n m m g h (fun i => if i = q then mixL N M n x j else F i) G ∧ Fr wr g4 mb g5 (.slice (some ⟨gv, 0, none⟩) m cv) ord d cnt D ∧ Bx wr bk [sl (g q) n, sl (h q) m]) (fun i _ => n - (intOf i).toNat)
  case atStart => exact ⟨0, by omega, rfl, hmf, hfr, hbx⟩
  case round =>
    clear hmf hfr hbx
    obtain ⟨j, hj, rfl, hmf, hfr, hbx⟩ := hrel
    by_cases hjn : j < n
    · have cb : ∀ w', Ext wr w' → w'.cell? ⟨bk, 0, none⟩ = some (sl (g q) n) := fun w' he => he.cell (hbx.cell 0 (by simp))
      have c50 : ∀ w', Ext wr w' → w'.cell? ⟨g5, 0, none⟩ = some (.slice (some ⟨gv, 0, none⟩) m cv) := fun w' he => he.cell (hfr.b5.cell 0 (by simp))
      have c53 : ∀ w', Ext wr w' → w'.cell? ⟨g5, 3, none⟩ = some (.int .i64 d) := fun w' he => he.cell (hfr.b5.cell 3 (by simp))
      have cv0' : ∀ w', Ext wr w' → w'.cell? ⟨gv, pn * 2, none⟩ = some (sl (g pn) n) := fun w' he => he.cell (by
        rw [hmf.own.cell (j := pn * 2) (by rw [rowCells_len]; omega)]
        exact (rowCells_get n m m g h hpm).1)
      have hlq := hmf.gl q hqm
      rw [if_pos rfl] at hlq
      have hlp := hmf.gl pn hpm
      rw [if_neg hne] at hlp
      have cq : ∀ w', Ext wr w' → w'.cell? ⟨g q, j, none⟩ = some (vint (M x j)) := fun w' he => he.cell (by
        rw [hlq.1.cell (by rw [mixL_length]; exact hjn), getI_mixL hjn])
      have cp : ∀ w', Ext wr w' → w'.cell? ⟨g pn, j, none⟩ = some (vint (piv j)) := fun w' he => he.cell (by
        rw [hlp.1.cell (by rw [hlp.2]; exact hjn), Hpiv.out j hjn])
      have hfq : wr.frozen? ⟨g q, j, none⟩ = false := hlq.1.free (by rw [mixL_length]; unfold maxLen; omega) j
      have hqlt := hlq.1.lt
      have hji : (j : Int) < (n : Int) := by omega
      have hpi : (pn : Int) < (m : Int) := by omega
      have hst := Hstep.out j hjn
      have Hst := Lib.hid hst
      clear hst hlq hlp
      go_wp2
      refine wp_region_calm 22 (fun _ _ v _ => v = .int .i64 (N x j)) (fun _ _ _ _ _ _ h => h) (by kernel_rfl) (by kernel_rfl) ?_
      simp only [List.take_succ_cons, List.take_zero, List.drop_succ_cons, List.drop_zero]
      refine calm_quiet calm_mono_final 21 (by kernel_rfl) ?_
      simp only [List.take_succ_cons, List.take_zero, List.drop_succ_cons, List.drop_zero]
      repeat (go_big_quiet_step (fail))
      refine wpQuiet_nil ?_
      refine calm_call calm_mono_final 84 #[.int .i64 p, .int .i64 (M x j), .int .i64 cv0, .int .i64 (piv j), .int .i64 d] rfl (fun w => ?_) (fun w he _ => ?_) ?_
      · go_simp
      · exact (Hst.out w).mono fun e w'' ⟨he', hx⟩ => ⟨_, he', hx, rfl⟩
      intro v1 _ _ hv1
      have hv1' : v1 = .int .i64 (N x j) := hv1
      subst hv1'
      clear hv1
      simp only [Act.put, List.setIfInBounds_toArray, List.set_cons_succ, List.set_cons_zero]
      refine calm_nil fun w3 he3 hF => ?_
      clear hF
      have cq3 := cq w3 he3
      have hf3 : w3.frozen? ⟨g q, j, none⟩ = false := (he3.frozen hqlt).trans hfq
      have hmf3 := (hmf.later he3).storeL hqm (by omega) (by omega) j (N x j)
      rw [if_pos rfl] at hmf3
      have hfr3 := (hfr.later he3).other (p := ⟨g q, j, none⟩) (Hsep.out.g q hqm) (vint (N x j))
      have hbx3 := (hbx.later he3).other (p := ⟨g q, j, none⟩) (fun e => (Hbg.out q hqm).1 e.symm) (vint (N x j))
      clear cb c50 c53 cv0' cq cp hfq Hst
      go_wp2
      go_roundw
      case rel =>
        refine ⟨j + 1, by omega, by go_num, hmf3.congr (fun i _ => ?_) (fun _ _ => rfl), hfr3, hbx3⟩
        by_cases e : i = q
        · rw [if_pos e, if_pos e, mixL_set hjn]
        · rw [if_neg e, if_neg e, if_neg e]
      case measure => simp [intOf]; omega
    · obtain rfl : j = n := by omega
      have hx := Hexit.out
      go_wp2
      exact hx _ _ _ _ _ _ _ _ _ _ _ _ _ _ _ _ _ _ _ _ _ _ _ _ _ _ _ _ wr hmf hfr hbx

set_option maxRecDepth 1000000 in
set_option maxHeartbeats 4000000 in
theorem loopB {u0 u1 u2 u3 u4 u6 u7 u8 u9 u11 u13 u16 u17 u18 u19 u20 u21 u22 u23 u24 u25 u26 u27 u28 u29 u30 u31 u32 u33 u34 u35 u36 u37 u38 u39 u40 u41 u42 u43 u44 u45 u46 u47 u48 u49 u50 u51 u52 u53 u54 u55 u56 u57 u58 u59 u60 u61 u62 u63 u64 u65 u66 u67 u68 u69 u70 u71 u72 u73 u74 u75 u76 u77 u78 u79 u80 u81 u82 u83 u84 u85 u86 u87 u88 u89 u90 u91 u92 u93 u94 u95 u96 u97 u98 u99 u100 u101 u102 u103 u104 u105 u106 u107 u108 u109 u110 u111 u112 u113 u114 u115 u116 u117 u118 u119 u120 u121 u122 u123 u124 u125 u126 u127 u128 u129 u130 u131 u134 u135 u136 u137 u138 u139 u140 u141 u142 u143 u144 u145 u146 u147 u148 u149 u150 u151 u152 u153 u154 u155 u156 u157 u158 u159 u160 u161 u162 u163 u164 u165 u166 u167 u168 : Value} {b w0 : World} {n m pn q g4 mb g5 bk gv cv x : Nat} {g h : Nat → Nat} {N M : Nat → Nat → Int} {F G : Nat → List Int} {piv : Nat → Int} {p cv0 d : Int} {ord : Value} {cnt : Nat} {D : DataW Unit} {Q : Exit → Act → World → Prop}
    (hn : n ≤ 8) (hm : m ≤ 16) (hqm : q < m) (hpm : pn < m) (hne : pn ≠ q)
    (hstep : ∀ j, j < m → ∀ w' : World, Calls Tryz.prog 84 #[.int .i64 p, .int .i64 (M x (n + j)), .int .i64 cv0, .int .i64 (piv j), .int .i64 d] w' fun e w'' => e = .returned (.int .i64 (N x (n + j))) ∧ Ext w' w'')
    (hpiv : ∀ j, j < m → getI (F pn) j = piv j) (hbg : ∀ k, k < m → bk ≠ g k ∧ bk ≠ h k) (hsep : Sep g5 (.slice (some ⟨gv, 0, none⟩) m cv) m g h)
    (hmf : MF b w0 (.slice (some ⟨gv, 0, none⟩) m cv) n m m g h G (fun i => if i = q then mixB N M n m x 0 else F i)) (hfr : Fr w0 g4 mb g5 (.slice (some ⟨gv, 0, none⟩) m cv) ord d cnt D) (hbx : Bx w0 bk [sl (g q) n, sl (h q) m])
    (hexit : ∀ (x17 x133 x134 x135 x136 x137 x138 x139 x140 x141 x142 x143 x144 x145 x146 x147 x148 x149 x150 x151 x152 x153 x154 x155 x156 x157 x158 x159 : Value) (w' : World), MF b w' (.slice (some ⟨gv, 0, none⟩) m cv) n m m g h G (fun i => if i = q then mixB N M n m x m else F i) → Fr w' g4 mb g5 (.slice (some ⟨gv, 0, none⟩) m cv) ord d cnt D → Bx w' bk [sl (g q) n, sl (h q) m] → Q (.exit 10) ⟨(u0 :: u1 :: u2 :: u3 :: u4 :: (.pointer (some ⟨g5, 0, none⟩)) :: u6 :: u7 :: u8 :: u9 :: (.int .i64 (pn : Int)) :: u11 :: (.int .i64 p) :: u13 :: (.pointer (some ⟨bk, 0, none⟩)) :: (.int .i64 cv0) :: u16 :: (x17) :: u18 :: u19 :: u20 :: u21 :: u22 :: u23 :: u24 :: u25 :: u26 :: u27 :: u28 :: u29 :: u30 :: u31 :: u32 :: u33 :: u34 :: u35 :: u36 :: u37 :: u38 :: u39 :: u40 :: u41 :: u42 :: u43 :: u44 :: u45 :: u46 :: u47 :: u48 :: u49 :: u50 :: u51 :: u52 :: u53 :: u54 :: u55 :: u56 :: u57 :: u58 :: u59 :: u60 :: u61 :: u62 :: u63 :: u64 :: u65 :: u66 :: u67 :: u68 :: u69 :: u70 :: u71 :: u72 :: u73 :: u74 :: u75 :: u76 :: u77 :: u78 :: u79 :: u80 :: u81 :: u82 :: u83 :: u84 :: u85 :: u86 :: u87 :: u88 :: u89 :: u90 :: u91 :: u92 :: u93 :: u94 :: u95 :: u96 :: u97 :: u98 :: u99 :: u100 :: u101 :: u102 :: u103 :: u104 :: u105 :: u106 :: u107 :: u108 :: u109 :: u110 :: u111 :: u112 :: u113 :: u114 :: u115 :: u116 :: u117 :: u118 :: u119 :: u120 :: u121 :: u122 :: u123 :: u124 :: u125 :: u126 :: u127 :: u128 :: u129 :: u130 :: u131 :: (.int .i64 (m : Int)) :: (x133) :: (x134) :: (x135) :: (x136) :: (x137) :: (x138) :: (x139) :: (x140) :: (x141) :: (x142) :: (x143) :: (x144) :: (x145) :: (x146) :: (x147) :: (x148) :: (x149) :: (x150) :: (x151) :: (x152) :: (x153) :: (x154) :: (x155) :: (x156) :: (x157) :: (x158) :: (x159) :: u160 :: u161 :: u162 :: u163 :: u164 :: u165 :: u166 :: u167 :: u168 :: []).toArray, []⟩ w') :
    Code.wp Tryz.prog (Code.loop loop65_10) Q ⟨(u0 :: u1 :: u2 :: u3 :: u4 :: (.pointer (some ⟨g5, 0, none⟩)) :: u6 :: u7 :: u8 :: u9 :: (.int .i64 (pn : Int)) :: u11 :: (.int .i64 p) :: u13 :: (.pointer (some ⟨bk, 0, none⟩)) :: (.int .i64 cv0) :: u16 :: u17 :: u18 :: u19 :: u20 :: u21 :: u22 :: u23 :: u24 :: u25 :: u26 :: u27 :: u28 :: u29 :: u30 :: u31 :: u32 :: u33 :: u34 :: u35 :: u36 :: u37 :: u38 :: u39 :: u40 :: u41 :: u42 :: u43 :: u44 :: u45 :: u46 :: u47 :: u48 :: u49 :: u50 :: u51 :: u52 :: u53 :: u54 :: u55 :: u56 :: u57 :: u58 :: u59 :: u60 :: u61 :: u62 :: u63 :: u64 :: u65 :: u66 :: u67 :: u68 :: u69 :: u70 :: u71 :: u72 :: u73 :: u74 :: u75 :: u76 :: u77 :: u78 :: u79 :: u80 :: u81 :: u82 :: u83 :: u84 :: u85 :: u86 :: u87 :: u88 :: u89 :: u90 :: u91 :: u92 :: u93 :: u94 :: u95 :: u96 :: u97 :: u98 :: u99 :: u100 :: u101 :: u102 :: u103 :: u104 :: u105 :: u106 :: u107 :: u108 :: u109 :: u110 :: u111 :: u112 :: u113 :: u114 :: u115 :: u116 :: u117 :: u118 :: u119 :: u120 :: u121 :: u122 :: u123 :: u124 :: u125 :: u126 :: u127 :: u128 :: u129 :: u130 :: u131 :: (.int .i64 (m : Int)) :: (.int .i64 0) :: u134 :: u135 :: u136 :: u137 :: u138 :: u139 :: u140 :: u141 :: u142 :: u143 :: u144 :: u145 :: u146 :: u147 :: u148 :: u149 :: u150 :: u151 :: u152 :: u153 :: u154 :: u155 :: u156 :: u157 :: u158 :: u159 :: u160 :: u161 :: u162 :: u163 :: u164 :: u165 :: u166 :: u167 :: u168 :: []).toArray, []⟩ w0 := by
  have Hexit := Lib.hid hexit
  have Hstep := Lib.hid hstep
  have Hpiv := Lib.hid hpiv
  have Hbg := Lib.hid hbg
  have Hsep := Lib.hid hsep
  clear hexit hstep hpiv hbg hsep
  conv => arg 2; arg 1; whnf
  go_loopw [133] (fun i wr => ∃ j : Nat, j ≤ m ∧ i = .int .i64 j ∧ MF b wr (.slice (some ⟨gv, 0, none⟩) m cv) n m m g h G (fun i => if i = q then mixB N M n m x j else F i) ∧ Fr wr g4 mb g5 (.slice (some ⟨gv, 0, none⟩) m cv) ord d cnt D ∧ Bx wr bk [sl (g q) n, sl (h q) m]) (fun i _ => m - (intOf i).toNat)
  case atStart => exact ⟨0, by omega, rfl, hmf, hfr, hbx⟩
  case round =>
    clear hmf hfr hbx
    obtain ⟨j, hj, rfl, hmf, hfr, hbx⟩ := hrel
    by_cases hjn : j < m
    · have cb : ∀ w', Ext wr w' → w'.cell? ⟨bk, 1, none⟩ = some (sl (h q) m) := fun w' he => he.cell (hbx.cell 1 (by simp))
      have c50 : ∀ w', Ext wr w' → w'.cell? ⟨g5, 0, none⟩ = some (.slice (some ⟨gv, 0, none⟩) m cv) := fun w' he => he.cell (hfr.b5.cell 0 (by simp))
      have c53 : ∀ w', Ext wr w' → w'.cell? ⟨g5, 3, none⟩ = some (.int .i64 d) := fun w' he => he.cell (hfr.b5.cell 3 (by simp))
      have cv0' : ∀ w', Ext wr w' → w'.cell? ⟨gv, pn * 2 + 1, none⟩ = some (sl (h pn) m) := fun w' he => he.cell (by
        rw [hmf.own.cell (j := pn * 2 + 1) (by rw [rowCells_len]; omega)]
        exact (rowCells_get n m m g h hpm).2)
      have hlq := hmf.hb q hqm
      rw [if_pos rfl] at hlq
      have hlp := hmf.hb pn hpm
      rw [if_neg hne] at hlp
      have cq : ∀ w', Ext wr w' → w'.cell? ⟨h q, j, none⟩ = some (vint (M x (n + j))) := fun w' he => he.cell (by
        rw [hlq.1.cell (by rw [mixB_length]; exact hjn), getI_mixB hjn])
      have cp : ∀ w', Ext wr w' → w'.cell? ⟨h pn, j, none⟩ = some (vint (piv j)) := fun w' he => he.cell (by
        rw [hlp.1.cell (by rw [hlp.2]; exact hjn), Hpiv.out j hjn])
      have hfq : wr.frozen? ⟨h q, j, none⟩ = false := hlq.1.free (by rw [mixB_length]; unfold maxLen; omega) j
      have hqlt := hlq.1.lt
      have hji : (j : Int) < (m : Int) := by omega
      have hpi : (pn : Int) < (m : Int) := by omega
      have hst := Hstep.out j hjn
      have Hst := Lib.hid hst
      clear hst hlq hlp
      go_wp2
      refine wp_region_calm 22 (fun _ _ v _ => v = .int .i64 (N x (n + j))) (fun _ _ _ _ _ _ h => h) (by kernel_rfl) (by kernel_rfl) ?_
      simp only [List.take_succ_cons, List.take_zero, List.drop_succ_cons, List.drop_zero]
      refine calm_quiet calm_mono_final 21 (by kernel_rfl) ?_
      simp only [List.take_succ_cons, List.take_zero, List.drop_succ_cons, List.drop_zero]
      repeat (go_big_quiet_step (fail))
      refine wpQuiet_nil ?_
      refine calm_call calm_mono_final 84 #[.int .i64 p, .int .i64 (M x (n + j)), .int .i64 cv0, .int .i64 (piv j), .int .i64 d] rfl (fun w => ?_) (fun w he _ => ?_) ?_
      · go_simp
      · exact (Hst.out w).mono fun e w'' ⟨he', hx⟩ => ⟨_, he', hx, rfl⟩
      intro v1 _ _ hv1
      have hv1' : v1 = .int .i64 (N x (n + j)) := hv1
      subst hv1'
      clear hv1
      simp only [Act.put, List.setIfInBounds_toArray, List.set_cons_succ, List.set_cons_zero]
      refine calm_nil fun w3 he3 hF => ?_
      clear hF
      have cq3 := cq w3 he3
      have hf3 : w3.frozen? ⟨h q, j, none⟩ = false := (he3.frozen hqlt).trans hfq
      have hmf3 := (hmf.later he3).storeB hqm (by omega) (by omega) j (N x (n + j))
      rw [if_pos rfl] at hmf3
      have hfr3 := (hfr.later he3).other (p := ⟨h q, j, none⟩) (Hsep.out.h q hqm) (vint (N x (n + j)))
      have hbx3 := (hbx.later he3).other (p := ⟨h q, j, none⟩) (fun e => (Hbg.out q hqm).2 e.symm) (vint (N x (n + j)))
      clear cb c50 c53 cv0' cq cp hfq Hst
      go_wp2
      go_roundw
      case rel =>
        refine ⟨j + 1, by omega, by go_num, hmf3.congr (fun _ _ => rfl) (fun i _ => ?_), hfr3, hbx3⟩
        by_cases e : i = q
        · rw [if_pos e, if_pos e, mixB_set hjn]
        · rw [if_neg e, if_neg e, if_neg e]
      case measure => simp [intOf]; omega
    · obtain rfl : j = m := by omega
      have hx := Hexit.out
      go_wp2
      exact hx _ _ _ _ _ _ _ _ _ _ _ _ _ _ _ _ _ _ _ _ _ _ _ _ _ _ _ _ wr hmf hfr hbx
end Go.Proofs.YtebkhdhhajjhfaaGreat.Gr

/- solve: the loop over the rows. -/
namespace Go.Proofs.YtebkhdhhajjhfaaGreat.Gr
open Go.RowKit

set_option maxRecDepth 1000000 in
set_option maxHeartbeats 8000000 in
theorem loopR {u0 u1 u2 u3 u4 u6 u7 u8 u11 u13 u14 u15 u16 u17 u18 u19 u20 u21 u22 u23 u24 u25 u26 u27 u28 u29 u30 u31 u32 u33 u34 u35 u36 u37 u38 u39 u40 u41 u42 u43 u44 u45 u46 u47 u48 u49 u50 u51 u52 u53 u54 u55 u56 u57 u58 u59 u60 u61 u62 u63 u64 u65 u66 u67 u68 u69 u70 u71 u72 u73 u74 u75 u76 u77 u78 u79 u80 u81 u82 u83 u84 u85 u89 u90 u91 u92 u93 u94 u95 u96 u97 u98 u99 u100 u101 u102 u103 u104 u105 u106 u107 u108 u109 u110 u111 u112 u113 u114 u115 u116 u117 u118 u119 u120 u121 u122 u123 u124 u125 u126 u127 u128 u129 u130 u131 u132 u133 u134 u135 u136 u137 u138 u139 u140 u141 u142 u143 u144 u145 u146 u147 u148 u149 u150 u151 u152 u153 u154 u155 u156 u157 u158 u159 u160 u161 u162 u163 u164 u165 u166 u167 u168 : Value} {b w0 : World} {n m pn cc g4 mb g5 gv cv i0 : Nat} {g h σ : Nat → Nat} {N M : Nat → Nat → Int} {p d : Int} {ord : Value} {cnt : Nat} {D : DataW Unit} {Q : Exit → Act → World → Prop}
    (hn : n ≤ 8) (hm : m ≤ 16) (hpm : pn < m) (hcn : cc < n)
    (hstep : ∀ x, x < m → x ≠ i0 → ∀ j, ∀ w' : World, Calls Tryz.prog 84 #[.int .i64 p, .int .i64 (M x j), .int .i64 (M x cc), .int .i64 (M i0 j), .int .i64 d] w' fun e w'' => e = .returned (.int .i64 (N x j)) ∧ Ext w' w'')
    (hN0 : ∀ j, N i0 j = M i0 j) (hlt : ∀ i, i < m → σ i < m) (hpn : σ pn = i0) (hne : ∀ i, i < m → i ≠ pn → σ i ≠ i0) (hsep : Sep g5 (.slice (some ⟨gv, 0, none⟩) m cv) m g h)
    (hmf : MF b w0 (.slice (some ⟨gv, 0, none⟩) m cv) n m m g h (fun i => if i < 0 then lineOf N n (σ i) else lineOf M n (σ i)) (fun i => if i < 0 then byOf N n m (σ i) else byOf M n m (σ i))) (hfr : Fr w0 g4 mb g5 (.slice (some ⟨gv, 0, none⟩) m cv) ord d cnt D)
    (hexit : ∀ (x13 x14 x15 x16 x17 x88 x89 x90 x91 x92 x93 x94 x95 x96 x97 x98 x99 x100 x101 x102 x103 x104 x105 x106 x107 x108 x109 x110 x111 x112 x113 x114 x115 x116 x117 x118 x119 x120 x121 x122 x123 x124 x125 x126 x127 x128 x129 x130 x131 x132 x133 x134 x135 x136 x137 x138 x139 x140 x141 x142 x143 x144 x145 x146 x147 x148 x149 x150 x151 x152 x153 x154 x155 x156 x157 x158 x159 x160 : Value) (w' : World), MF b w' (.slice (some ⟨gv, 0, none⟩) m cv) n m m g h (fun i => if i < m then lineOf N n (σ i) else lineOf M n (σ i)) (fun i => if i < m then byOf N n m (σ i) else byOf M n m (σ i)) → Fr w' g4 mb g5 (.slice (some ⟨gv, 0, none⟩) m cv) ord d cnt D → Q (.exit 6) ⟨(u0 :: u1 :: u2 :: u3 :: u4 :: (.pointer (some ⟨g5, 0, none⟩)) :: u6 :: u7 :: u8 :: (.int .i64 (cc : Int)) :: (.int .i64 (pn : Int)) :: u11 :: (.int .i64 p) :: (x13) :: (x14) :: (x15) :: (x16) :: (x17) :: u18 :: u19 :: u20 :: u21 :: u22 :: u23 :: u24 :: u25 :: u26 :: u27 :: u28 :: u29 :: u30 :: u31 :: u32 :: u33 :: u34 :: u35 :: u36 :: u37 :: u38 :: u39 :: u40 :: u41 :: u42 :: u43 :: u44 :: u45 :: u46 :: u47 :: u48 :: u49 :: u50 :: u51 :: u52 :: u53 :: u54 :: u55 :: u56 :: u57 :: u58 :: u59 :: u60 :: u61 :: u62 :: u63 :: u64 :: u65 :: u66 :: u67 :: u68 :: u69 :: u70 :: u71 :: u72 :: u73 :: u74 :: u75 :: u76 :: u77 :: u78 :: u79 :: u80 :: u81 :: u82 :: u83 :: u84 :: u85 :: (.slice (some ⟨gv, 0, none⟩) m cv) :: (.int .i64 (m : Int)) :: (x88) :: (x89) :: (x90) :: (x91) :: (x92) :: (x93) :: (x94) :: (x95) :: (x96) :: (x97) :: (x98) :: (x99) :: (x100) :: (x101) :: (x102) :: (x103) :: (x104) :: (x105) :: (x106) :: (x107) :: (x108) :: (x109) :: (x110) :: (x111) :: (x112) :: (x113) :: (x114) :: (x115) :: (x116) :: (x117) :: (x118) :: (x119) :: (x120) :: (x121) :: (x122) :: (x123) :: (x124) :: (x125) :: (x126) :: (x127) :: (x128) :: (x129) :: (x130) :: (x131) :: (x132) :: (x133) :: (x134) :: (x135) :: (x136) :: (x137) :: (x138) :: (x139) :: (x140) :: (x141) :: (x142) :: (x143) :: (x144) :: (x145) :: (x146) :: (x147) :: (x148) :: (x149) :: (x150) :: (x151) :: (x152) :: (x153) :: (x154) :: (x155) :: (x156) :: (x157) :: (x158) :: (x159) :: (x160) :: u161 :: u162 :: u163 :: u164 :: u165 :: u166 :: u167 :: u168 :: []).toArray, []⟩ w') :
    Code.wp Tryz.prog (Code.loop loop65_6) Q ⟨(u0 :: u1 :: u2 :: u3 :: u4 :: (.pointer (some ⟨g5, 0, none⟩)) :: u6 :: u7 :: u8 :: (.int .i64 (cc : Int)) :: (.int .i64 (pn : Int)) :: u11 :: (.int .i64 p) :: u13 :: u14 :: u15 :: u16 :: u17 :: u18 :: u19 :: u20 :: u21 :: u22 :: u23 :: u24 :: u25 :: u26 :: u27 :: u28 :: u29 :: u30 :: u31 :: u32 :: u33 :: u34 :: u35 :: u36 :: u37 :: u38 :: u39 :: u40 :: u41 :: u42 :: u43 :: u44 :: u45 :: u46 :: u47 :: u48 :: u49 :: u50 :: u51 :: u52 :: u53 :: u54 :: u55 :: u56 :: u57 :: u58 :: u59 :: u60 :: u61 :: u62 :: u63 :: u64 :: u65 :: u66 :: u67 :: u68 :: u69 :: u70 :: u71 :: u72 :: u73 :: u74 :: u75 :: u76 :: u77 :: u78 :: u79 :: u80 :: u81 :: u82 :: u83 :: u84 :: u85 :: (.slice (some ⟨gv, 0, none⟩) m cv) :: (.int .i64 (m : Int)) :: (.int .i64 0) :: u89 :: u90 :: u91 :: u92 :: u93 :: u94 :: u95 :: u96 :: u97 :: u98 :: u99 :: u100 :: u101 :: u102 :: u103 :: u104 :: u105 :: u106 :: u107 :: u108 :: u109 :: u110 :: u111 :: u112 :: u113 :: u114 :: u115 :: u116 :: u117 :: u118 :: u119 :: u120 :: u121 :: u122 :: u123 :: u124 :: u125 :: u126 :: u127 :: u128 :: u129 :: u130 :: u131 :: u132 :: u133 :: u134 :: u135 :: u136 :: u137 :: u138 :: u139 :: u140 :: u141 :: u142 :: u143 :: u144 :: u145 :: u146 :: u147 :: u148 :: u149 :: u150 :: u151 :: u152 :: u153 :: u154 :: u155 :: u156 :: u157 :: u158 :: u159 :: u160 :: u161 :: u162 :: u163 :: u164 :: u165 :: u166 :: u167 :: u168 :: []).toArray, []⟩ w0 := by
  have Hexit := Lib.hid hexit
  have Hstep := Lib.hid hstep
  have HN0 := Lib.hid hN0
  have Hlt := Lib.hid hlt
  have Hpn := Lib.hid hpn
  have Hne := Lib.hid hne
  have Hsep := Lib.hid hsep
  clear hexit hstep hN0 hlt hpn hne hsep
  conv => arg 2; arg 1; whnf
  go_loopw [88] (fun i wr => ∃ q : Nat, q ≤ m ∧ i = .int .i64 q ∧ MF b wr (.slice (some ⟨gv, 0, none⟩) m cv) n m m g h (fun i => if i < q then lineOf N n (σ i) else lineOf M n (σ i)) (fun i => if i < q then byOf N n m (σ i) else byOf M n m (σ i)) ∧ Fr wr g4 mb g5 (.slice (some ⟨gv, 0, none⟩) m cv) ord d cnt D) (fun i _ => m - (intOf i).toNat)
  case atStart => exact ⟨0, by omega, rfl, hmf, hfr⟩
  case round =>
    clear hmf hfr
    obtain ⟨wq, rfl⟩ : ∃ wq : World, wq = wr := ⟨_, rfl⟩
    obtain ⟨q, hq, rfl, hmf, hfr⟩ := hrel
    by_cases hqm : q < m
    · have r0 : wq.cell? ⟨gv, q * 2, none⟩ = some (sl (g q) n) := by
        rw [hmf.own.cell (j := q * 2) (by rw [rowCells_len]; omega)]
        exact (rowCells_get n m m g h hqm).1
      have r1 : wq.cell? ⟨gv, q * 2 + 1, none⟩ = some (sl (h q) m) := by
        rw [hmf.own.cell (j := q * 2 + 1) (by rw [rowCells_len]; omega)]
        exact (rowCells_get n m m g h hqm).2
      have c50 : wq.cell? ⟨g5, 0, none⟩ = some (.slice (some ⟨gv, 0, none⟩) m cv) := hfr.b5.cell 0 (by simp)
      have hqi : (q : Int) < (m : Int) := by omega
      by_cases e : q = pn
      · have hb : ((q : Int) == (pn : Int)) = true := by simp; omega
        have E := Lib.hid e
        clear e
        go_wp2
        go_roundw
        case rel =>
          have e := E.out
          refine ⟨q + 1, by omega, by go_num, (hmf.congr (fun i hi => ?_) (fun i hi => ?_)).later (by simp), hfr.later (by simp)⟩
          · by_cases e1 : i < q
            · rw [if_pos e1, if_pos (by omega)]
            · by_cases e2 : i = q
              · rw [if_neg e1, if_pos (by omega), e2, e, Hpn.out]
                exact List.map_congr_left fun j _ => (HN0.out j).symm
              · rw [if_neg e1, if_neg (by omega)]
          · by_cases e1 : i < q
            · rw [if_pos e1, if_pos (by omega)]
            · by_cases e2 : i = q
              · rw [if_neg e1, if_pos (by omega), e2, e, Hpn.out]
                exact List.map_congr_left fun j _ => (HN0.out _).symm
              · rw [if_neg e1, if_neg (by omega)]
        case measure => simp [intOf]; omega
      · have hb : ((q : Int) == (pn : Int)) = false := by simp; omega
        have hmf1 := hmf.later (w' := wq.alloc (.cells #[sl (g q) n, sl (h q) m] 130)) ((Ext.refl _).alloc _)
        have hfr1 := hfr.later (w' := wq.alloc (.cells #[sl (g q) n, sl (h q) m] 130)) ((Ext.refl _).alloc _)
        have hbx1 : Bx (wq.alloc (.cells #[sl (g q) n, sl (h q) m] 130)) wq.heap.size [sl (g q) n, sl (h q) m] := Bx.of_heap (heap_alloc_new _ _)
        have hx0 : ∀ w', Ext (wq.alloc (.cells #[sl (g q) n, sl (h q) m] 130)) w' → w'.cell? ⟨wq.heap.size, 0, none⟩ = some (sl (g q) n) := fun w' he => he.cell (hbx1.cell 0 (by simp))
        have hbg : ∀ k, k < m → wq.heap.size ≠ g k ∧ wq.heap.size ≠ h k := fun k hk => by
          have h1 := (hmf.gl k hk).1.lt
          have h2 := (hmf.hb k hk).1.lt
          omega
        have hlq := (hmf1.gl q hqm).1
        rw [if_neg (Nat.lt_irrefl q)] at hlq
        have hat := at_any (some ⟨g q, 0, none⟩) n cc (lineOf M n (σ q)) _ hlq.ints (by rw [lineOf_length]; exact hcn)
        rw [lineOf_length, getI_lineOf hcn] at hat
        have Hat := Lib.hid hat
        have E := Lib.hid e
        have Hbg := Lib.hid hbg
        clear hat hlq e hbg
        go_wp2_with (go_at_call 53; refine Hat.out.mono ?_; rintro e w' ⟨rfl, rfl⟩)
        have hxq : σ q < m := Hlt.out q hqm
        have hxn : σ q ≠ i0 := Hne.out q hqm E.out
        refine loopL (b := b) (n := n) (m := m) (pn := pn) (q := q) (g4 := g4) (mb := mb) (gv := gv) (cv := cv) (x := σ q) (g := g) (h := h) (N := N) (M := M) (F := fun i => if i < q then lineOf N n (σ i) else lineOf M n (σ i)) (G := fun i => if i < q then byOf N n m (σ i) else byOf M n m (σ i)) (piv := fun j => M i0 j) (d := d) (ord := ord) (cnt := cnt) (D := D)
          hn hm hqm hpm (fun e => E.out e.symm) (fun j _ w' => Hstep.out _ hxq hxn j w') (fun j hj => ?_) Hbg.out Hsep.out (hmf1.congr (fun i _ => ?_) (fun _ _ => rfl)) hfr1 hbx1 ?_
        · split
          · rw [Hpn.out, getI_lineOf hj, HN0.out]
          · rw [Hpn.out, getI_lineOf hj]
        · by_cases e : i = q
          · rw [if_pos e, e, if_neg (Nat.lt_irrefl q), mixL_zero]
          · rw [if_neg e]
        intro x16 x103 x104 x105 x106 x107 x108 x109 x110 x111 x112 x113 x114 x115 x116 x117 x118 x119 x120 x121 x122 x123 x124 x125 x126 x127 x128 x129 w8 hmf8 hfr8 hbx8
        have hx1 : w8.cell? ⟨wq.heap.size, 1, none⟩ = some (sl (h q) m) := hbx8.cell 1 (by simp)
        go_wp2
        refine loopB (b := b) (n := n) (m := m) (pn := pn) (q := q) (g4 := g4) (mb := mb) (gv := gv) (cv := cv) (x := σ q) (g := g) (h := h) (N := N) (M := M) (F := fun i => if i < q then byOf N n m (σ i) else byOf M n m (σ i)) (G := fun i => if i = q then mixL N M n (σ q) n else if i < q then lineOf N n (σ i) else lineOf M n (σ i)) (piv := fun j => M i0 (n + j)) (d := d) (ord := ord) (cnt := cnt) (D := D)
          hn hm hqm hpm (fun e => E.out e.symm) (fun j _ w' => Hstep.out _ hxq hxn (n + j) w') (fun j hj => ?_) Hbg.out Hsep.out (hmf8.congr (fun _ _ => rfl) (fun i _ => ?_)) hfr8 hbx8 ?_
        · split
          · rw [Hpn.out, getI_byOf hj, HN0.out]
          · rw [Hpn.out, getI_byOf hj]
        · by_cases e : i = q
          · rw [if_pos e, e, if_neg (Nat.lt_irrefl q), mixB_zero]
          · rw [if_neg e]
        intro y17 y133 y134 y135 y136 y137 y138 y139 y140 y141 y142 y143 y144 y145 y146 y147 y148 y149 y150 y151 y152 y153 y154 y155 y156 y157 y158 y159 w9 hmf9 hfr9 hbx9
        go_wp2
        go_roundw
        case rel =>
          refine ⟨q + 1, by omega, by go_num, hmf9.congr (fun i _ => ?_) (fun i _ => ?_), hfr9⟩
          · by_cases e1 : i = q
            · rw [if_pos e1, if_pos (by omega), mixL_all, e1]
            · rw [if_neg e1]
              by_cases e2 : i < q
              · rw [if_pos e2, if_pos (by omega)]
              · rw [if_neg e2, if_neg (by omega)]
          · by_cases e1 : i = q
            · rw [if_pos e1, if_pos (by omega), mixB_all, e1]
            · rw [if_neg e1]
              by_cases e2 : i < q
              · rw [if_pos e2, if_pos (by omega)]
              · rw [if_neg e2, if_neg (by omega)]
        case measure => simp [intOf]; omega
    · obtain rfl : q = m := by omega
      have hx := Hexit.out
      go_wp2
      exact hx _ _ _ _ _ _ _ _ _ _ _ _ _ _ _ _ _ _ _ _ _ _ _ _ _ _ _ _ _ _ _ _ _ _ _ _ _ _ _ _ _ _ _ _ _ _ _ _ _ _ _ _ _ _ _ _ _ _ _ _ _ _ _ _ _ _ _ _ _ _ _ _ _ _ _ _ _ _ wq hmf hfr
end Go.Proofs.YtebkhdhhajjhfaaGreat.Gr
