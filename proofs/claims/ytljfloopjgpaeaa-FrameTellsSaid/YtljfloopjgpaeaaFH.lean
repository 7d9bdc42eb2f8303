/- tollbarlaw13.FrameTells: for every program, frame, number of steps and code it returns true; no condition. -/
import Derived.Test.YtljfloopjgpaeaaFF
import Derived.Test.YtljfloopjgpaeaaFG
namespace Go.Proofs.Ytljfloopjgpaeaa
set_option linter.unusedVariables false
set_option linter.unusedSimpArgs false
open Go.RowKit
theorem frameTells_any {c1 c2 c3 : Value} {P : ProgV} {w : World} (h : RProg w c1 c2 c3 P) (f : FrameV) (hf : f.wf) (most code : Int) :
    Calls Try.prog 8 #[.agg #[c1, c2, c3], f.agg, .int .i64 most, .int .i64 code] w fun e w' => e = .returned (.bool true) ∧ Below w.heap.size w w' := by
  by_cases hm : 5000 < most ∧ most ≤ 65536
  · exact frameTells_B h f most code hm
  · cases hat : atB P f.code f.pc with
    | false => exact frameTells_false h f hf most code hm hat
    | true => exact frameTells_true h f hf most code hm hat
end Go.Proofs.Ytljfloopjgpaeaa
