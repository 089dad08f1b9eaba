/- line: the line on which a knob stands; that it answers is all that is asked. -/
import Derived.Test.YtebkhdhhajjhfaaGreatU25
namespace Go.Proofs.YtebkhdhhajjhfaaGreat.Lt
open Go Go.RowKit
theorem results_line {fn : Func} {t s : Tmp} (h : fn.results = #[.tmp s, .cell t 60]) (tmps : Array Value) (w : World) {g : Nat} {u0 u1 u2 : Value} (h8 : tmps.getD t undef = .pointer (some ⟨g, 0, none⟩)) (hb : Blk w g [u0, u1, u2]) :
    (results fn tmps).run Tryz.prog w = .ok (.tuple #[tmps.getD s undef, .agg #[u0, u1, u2]]) w := by
  have c0 := hb.c 0 _ rfl
  have c1 := hb.c 1 _ rfl
  have c2 := hb.c 2 _ rfl
  rw [Array.getD_eq_getD_getElem?] at h8
  simp [results, h, loadVar, h8, c0, c1, c2, loadCells, loadCellsFrom, asAddr, Addr.add_lit, Result.andThen, go_sem]
set_option maxRecDepth 100000 in
set_option maxHeartbeats 2000000 in
theorem line_any (x y z : Int) (d : Nat) (s : Int) (w : World) (hd : d < 6) : Calls Tryz.prog 166 #[.agg #[.int .i64 x, .int .i64 y, .int .i64 z, .int .u8 d, .int .u8 s]] w fun e w' => ∃ (a : Int) (u : Ce), e = .returned (.tuple #[.int .u8 a, u.val]) ∧ Ext w w' := by
  go_enter Tryz.func166, Tryz.ntmps166
  rcases six_cases hd with rfl | rfl | rfl | rfl | rfl | rfl
  all_goals
    go_wp2
    go_region
    go_wp2
    refine bodyPost_ret (results_line rfl _ _ rfl ((Blk.new' (by simp)).ext (Ext.refl _).drew)) rfl ?_
    exact ⟨_, ⟨_, _, _⟩, rfl, (((Ext.refl w).alloc _).alloc _).drew⟩
end Go.Proofs.YtebkhdhhajjhfaaGreat.Lt
