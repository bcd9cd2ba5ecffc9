/- Plain laws: the machine of a word is a machine. -/
import Derived.Test.YtcghcbdefajpgaaBob
import Derived.Test.YtcghcbdefajpgaaMnm
namespace Go.Proofs.Ytcghcbdefajpgaa
open Go.RowKit

theorem Gm.toM_is {g : Gm} (hok : g.Tb) : g.toM.1.Is g.toM.1.cells := by
  have l3 := hok.l3
  by_cases h : 16 < g.bof.length
  · rw [Gm.toM_big h]; exact Mc.zero_is
  · rw [Gm.toM_ok h]
    have hnx : ∀ i x, (gaM g g.bof g.nuO).nx i x < 256 := fun i x => by
      show (if _ then _ else _) < 256
      split
      · rename_i hc
        have hi : i < g.bof.length := by omega
        have := Gm.nuO_lt hok hi hc.2
        omega
      · omega
    have hou : ∀ i x, (gaM g g.bof g.nuO).ou i x < 256 := fun i x => by
      show (if _ then _ else _) < 256
      split
      · rename_i hc
        have hi : i < g.bof.length := by omega
        have := hok.olt _ x (Gm.bof_lt hok hi) hc.2
        omega
      · omega
    exact Mc.Is.of_cells _ (fun q x _ _ => hnx q x) (fun q x _ _ => hou q x) (WalkArith.wf_i64 (by show -9223372036854775808 ≤ (g.l : Int) ∧ (g.l : Int) ≤ 9223372036854775807; omega)) (WalkArith.wf_i64 (by show -9223372036854775808 ≤ (g.bof.length : Int) ∧ (g.bof.length : Int) ≤ 9223372036854775807; omega))
theorem Gm.moM_is {g : Gm} (hok : g.Ok) {u : List Int} (hu : g.Nums u) : (g.moM u).1.Is (g.moM u).1.cells := by
  by_cases hc : (g.secs (fun _ => true) u).2.2 = 0
  · rw [Gm.moM_ok hc]
    exact Gm.toM_is (Gm.sT_tb hok (Gm.secs_ok hok hu hc))
  · rw [(Gm.moM_bad hc).2]; exact Mc.zero_is
end Go.Proofs.Ytcghcbdefajpgaa
