/- tollbarlaw32.LiveRises: of a longer log, up to an end that is no less, no lag is less. For every log; no condition. -/
import Derived.Test.YtljfloopjgpaeabLPA
import Derived.Test.YtljfloopjgpaeabLPB
import Derived.Test.YtljfloopjgpaeabLPC
namespace Go.Proofs.Ytljfloopjgpaeab
set_option linter.unusedVariables false
set_option linter.unusedSimpArgs false
open Go.RowKit Go.Shelf
attribute [local go_sem] Oper.semAt_some
set_option maxRecDepth 100000
theorem liveRises_any {w : World} {v : Value} {l : List EntV} (h : kEnt.R w v l) (cut more : Int) (hc : 0 ≤ cut ∧ cut ≤ 255) (hm : 0 ≤ more ∧ more ≤ 65535) :
    Calls Try.prog 3 #[v, .int .u8 cut, .int .u16 more] w fun e w' => e = .returned (.bool true) ∧ Below w.heap.size w w' := by
  obtain ⟨k, hk⟩ : ∃ k : Nat, cut % ((l.length : Int) + 1) = (k : Int) := ⟨(cut % ((l.length : Int) + 1)).toNat, by rw [Int.toNat_of_nonneg (Int.emod_nonneg _ (by omega))]⟩
  rcases k with _ | p
  · by_cases hl0 : l.length = 0
    · exact liveRises_A h cut more hc hm hk rfl hl0
    · exact liveRises_B h cut more hc hm hk rfl hl0
  · exact liveRises_C h cut more hc hm hk rfl
end Go.Proofs.Ytljfloopjgpaeab
