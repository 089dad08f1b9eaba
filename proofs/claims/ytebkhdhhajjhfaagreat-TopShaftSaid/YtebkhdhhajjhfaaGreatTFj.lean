/- The law TopShaft, by cases. -/
import Derived.Test.YtebkhdhhajjhfaaGreatTFe
namespace Go.Proofs.YtebkhdhhajjhfaaGreat.Lt
open Go.RowKit
theorem topShaft_law (A : Option Addr) (c : Nat) (s : Int) (ms : List Gr.Msh) (i o turns : Int) (B : Option Addr) (d : Nat) (p : List Sp) (w : World) (hA : Gr.MRow w A ms) (hB : SRow w B p) : ShaftYes A c s i o turns ms B p d w := by
  by_cases hm : ms.length ≤ 30
  · by_cases hn : p.length ≤ 20
    · by_cases h1 : -1048576 ≤ turns
      · by_cases h2 : turns ≤ 1048576
        · by_cases hr : ∃ num den, HasRat s ms i o num den
          · obtain ⟨num, den, h⟩ := hr
            by_cases hev : turns.tmod den = 0
            · by_cases hp : panelP p
              · by_cases hb : 1073741824 < num
                · exact shaft_over1 hA hB hm hn h1 h2 h hev hp hb
                · by_cases hb2 : num < -1073741824
                  · exact shaft_over2 hA hB hm hn h1 h2 h hev hp hb2
                  · exact shaft_turned hA hB hm hn h1 h2 h hev hp ⟨by omega, by omega⟩
              · exact shaft_flawed hA hB hm hn h1 h2 h hev hp
            · exact shaft_odd hA hB hm hn h1 h2 h hev
          · exact shaft_none hA hm hn h1 h2 hr
        · exact shaft_over (.inr ⟨hm, .inr ⟨hn, .inr ⟨h1, by omega⟩⟩⟩)
      · exact shaft_over (.inr ⟨hm, .inr ⟨hn, .inl (by omega)⟩⟩)
    · exact shaft_over (.inr ⟨hm, .inl (by omega)⟩)
  · exact shaft_over (.inl (by omega))
end Go.Proofs.YtebkhdhhajjhfaaGreat.Lt
