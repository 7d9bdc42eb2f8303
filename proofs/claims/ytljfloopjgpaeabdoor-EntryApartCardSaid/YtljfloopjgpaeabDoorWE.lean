/- tollbarlaw14.EntryApart: its walk, joined. -/
import Derived.Test.YtljfloopjgpaeabDoorWC
import Derived.Test.YtljfloopjgpaeabDoorWD
namespace Go.Proofs.YtljfloopjgpaeabDoor
set_option linter.unusedVariables false
set_option linter.unusedSimpArgs false
open Go.RowKit
theorem entryApart_any {w : World} (x y : EntV) (rx : rgE x) (ry : rgE y) (htab : Tab10 w) : Calls Tryd.prog 5 #[x.agg, y.agg] w fun e w' => e = .returned (.bool true) ∧ Below w.heap.size w w' := by
  cases hx : entB x with
  | false =>
    cases hy : entB y with
    | false => exact apart_ff x y rx ry htab hx hy
    | true => exact apart_ft x y rx ry htab hx hy
  | true =>
    cases hy : entB y with
    | false => exact apart_tf x y rx ry htab hx hy
    | true =>
      by_cases hxy : x = y
      · exact apart_eq x y rx ry htab hx hy hxy
      · by_cases hle : (bytesX x).length ≤ (bytesX y).length
        · exact apart_le x y rx ry htab hx hy hxy hle
        · exact apart_gt x y rx ry htab hx hy hxy hle
end Go.Proofs.YtljfloopjgpaeabDoor
