/- flat: two boards overlap exactly if their panels clash, with a right proof. -/
import Derived.Test.YtebkhdhhajjhfaaGreatU30
import Derived.Test.YtebkhdhhajjhfaaGreatU20
import Derived.Test.YtebkhdhhajjhfaaGreatU15
namespace Go.Proofs.YtebkhdhhajjhfaaGreat.Lt
open Go.RowKit
theorem results_three {fn : Func} {a b c : Tmp} (h : fn.results = #[.tmp a, .tmp b, .tmp c]) (tmps : Array Value) (w : World) :
    (results fn tmps).run Tryz.prog w = .ok (.tuple #[tmps.getD a undef, tmps.getD b undef, tmps.getD c undef]) w := by
  simp [results, h, loadVar, go_sem]
end Go.Proofs.YtebkhdhhajjhfaaGreat.Lt
